/- Parts of the proof: CodeD. -/
import Derived.Test.YtijbgbpjionfjaaGreatDoorPb
set_option linter.unusedVariables false
set_option linter.unusedSimpArgs false
set_option maxRecDepth 100000
namespace Go.Proofs.YtijbgbpjionfjaaGreatDoor.Am
section
open Go.Proofs.YtijbgbpjionfjaaGreatDoor.Am
theorem mix : Tryz.prog.follows .mixedOrders = true := by kernel_rfl
@[simp] def om_ (d s : Nat) (l : List Nat) : O := ⟨some d, .mv (.t s), none, l⟩
@[simp] def oo_ (d : Nat) (a : A) (l : List Nat) : O := ⟨some d, a, none, l⟩
@[simp] def og_ (d : Nat) (a : A) (s : Nat) (b : Bool) (l : List Nat) : O := ⟨some d, a, some (s, b), l⟩
@[simp] def on_ (a : A) (l : List Nat) : O := ⟨none, a, none, l⟩

abbrev t_nat_Nat : Nat := 47
abbrev t_tape_Tape : Nat := 117
abbrev o_5y : FuncId := 4
def o_ax : C := (.seq (.reg false [oo_ 3 (.box 26 (.t 0)) [],oo_ 6 (.mv (.d (.bool false))) []]) (.seq (.seq (.reg false [oo_ 19 (.call 9 []) [],oo_ 20 (.un .not (.t 19)) [0]]) (.cond (.t 20) (.seq (.reg false [oo_ 6 (.mv (.d (.bool
 false))) []]) .ret) .skip)) (.seq (.reg false [oo_ 7 (.mv (.d .nilsl)) []]) (.seq (.seq (.reg false [oo_ 21 (.mv (.d (.int .i64 0))) []]) (.block 0 (.loop (.seq (.reg false [oo_ 22 (.bin .lss (.t 21) (.d (.int .i64
 300))) []]) (.seq (.cond (.t 22) .skip (.exit 0)) (.seq (.block 1 (.seq (.reg false [om_ 23 21 [],om_ 8 23 [0,0]]) (.reg false [om_ 24 7 [],om_ 25 8 [],oo_ 26 (.bin .rem (.t 25) (.d (.int .i64 5))) [1],oo_ 27 (.bin .neq
 (.t 26) (.d (.int .i64 2))) [2],oo_ 28 (.bsl 4 1 1 [(.bool false)] [(0,1,(.t 27))]) [3],oo_ 29 (.app 4 1 1 (.t 24) (.t 28)) [0,4],om_ 7 29 [5,5,0,1,2,3,4,5]]))) (.reg false [oo_ 30 (.bin .add (.t 21) (.d (.int .i64 1)))
 [],om_ 21 30 [0]]))))))) (.seq (.reg true [oo_ 31 (.load true 6 (.t 3)) [],om_ 32 1 [],om_ 33 7 [],oo_ 34 (.call 13 [(.t 33)]) [2],oo_ 35 (.call 21 [(.t 31),(.t 32),(.t 34)]) [0,1,3,3],om_ 9 35 [4,4,0,1,2,3,4]]) (.seq
 (.seq (.reg false [om_ 36 9 [],oo_ 37 (.pnl false (.t 36)) [0]]) (.cond (.t 37) (.seq (.reg false [oo_ 6 (.mv (.d (.bool false))) []]) .ret) .skip)) (.seq (.reg false [om_ 39 9 [],om_ 40 2 [],oo_ 41 (.call 16 [(.t
 39),(.t 40)]) [0,1],om_ 38 41 [2],oo_ 42 (.ext (.t 38) 0) [3],oo_ 43 (.ext (.t 38) 1) [3],oo_ 10 (.new 51 [.nilsl,(.bool false),.nilsl]) [],on_ (.store 3 (.t 10) (.t 42)) [6,4,2,0,1,2,3,4,6],om_ 11 43
 [5,7,0,1,2,3,4,5,6,7]]) (.seq (.seq (.reg false [om_ 44 2 [],oo_ 45 (.bin .geq (.t 44) (.d (.int .u64 2305843009213693951))) [0]]) (.cond (.t 45) (.seq (.reg false [om_ 46 11 [],oo_ 47 (.bin .eql (.t 46) (.d (.int .i64
 2))) [0],om_ 48 47 [1],og_ 49 (.load true 3 (.t 10)) 48 true [2],og_ 50 (.call 22 [(.t 49)]) 48 true [3,2,2],⟨some 51,.bin .eql (.t 50) (.d (.str ⟨#[48]⟩)),some (48,true),[4,2]⟩,oo_ 52 (.pick (.t 48) (.t 51) (.d (.bool
 false))) [2,5],om_ 6 52 [6,4,0,1,2,3,4,5,6]]) .ret) .skip)) (.seq (.seq (.reg false [om_ 53 11 [],oo_ 54 (.bin .neq (.t 53) (.d (.int .i64 0))) [0]]) (.cond (.t 54) (.seq (.reg false [oo_ 6 (.mv (.d (.bool false))) []])
 .ret) .skip)) (.seq (.reg false [oo_ 12 (.mv (.d (.bool false))) []]) (.seq (.seq (.reg false [om_ 55 9 [],oo_ 56 (.call 23 [(.t 55)]) [0],oo_ 57 (.len (.t 56)) [1],oo_ 58 (.mv (.d (.int .i64 0))) []]) (.block 2 (.loop
 (.seq (.reg false [oo_ 59 (.bin .lss (.t 58) (.t 57)) []]) (.seq (.cond (.t 59) .skip (.exit 2)) (.seq (.block 3 (.seq (.reg false [om_ 60 58 [],oo_ 61 (.ix 2 (.t 56) (.t 58)) [],oo_ 62 (.load true 2 (.t 61)) [1],oo_ 14
 (.new 62 [(.int .u64 0),(.int .u64 0)]) [],om_ 13 60 [0,0,1,2,3],on_ (.store 2 (.t 14) (.t 62)) [3,2,4,0,1,2,3,4]]) (.seq (.reg false [om_ 64 9 [],om_ 65 13 [],oo_ 66 (.fa 0 (.t 14)) [],oo_ 67 (.load false 1 (.t 66))
 [2],oo_ 68 (.fa 1 (.t 14)) [],oo_ 69 (.load false 1 (.t 68)) [4],om_ 70 2 [],oo_ 71 (.call 25 [(.t 67),(.t 69),(.t 70)]) [3,5,6],om_ 72 9 [],oo_ 73 (.call 26 [(.t 72)]) [8,7],oo_ 74 (.fld false 1 1 (.t 73)) [9],oo_ 75
 (.conv .u64 (.t 74)) [10],oo_ 76 (.bin .rem (.t 71) (.t 75)) [7,11],oo_ 77 (.conv .i64 (.t 76)) [12],oo_ 78 (.call 24 [(.t 64),(.t 65),(.t 77)]) [0,1,13,9],om_ 63 78 [14],oo_ 79 (.ext (.t 63) 0) [15],oo_ 80 (.ext (.t
 63) 1) [15],oo_ 15 (.new 64 [(.int .i64 0),(.int .i64 0),(.bool false)]) [],on_ (.store 3 (.t 15) (.t 79)) [18,16,14,0,1,2,3,4,5,6,7,8,9,10,11,12,13,14,15,16,18],om_ 16 80
 [17,19,0,1,2,3,4,5,6,7,8,9,10,11,12,13,14,15,16,17,18,19]]) (.seq (.reg true [om_ 82 9 [],oo_ 83 (.call 26 [(.t 82)]) [0],oo_ 84 (.fld true 2 3 (.t 83)) [1],oo_ 85 (.load true 3 (.t 15)) [],oo_ 86 (.call 27 [(.t 84),(.t
 85)]) [2,3,1],om_ 81 86 [4],oo_ 87 (.ext (.t 81) 0) [5],oo_ 88 (.ext (.t 81) 1) [5],oo_ 17 (.new 51 [.nilsl,(.bool false),.nilsl]) [],on_ (.store 3 (.t 17) (.t 87)) [8,6,4,0,1,2,3,4,5,6,8],om_ 18 88
 [7,9,0,1,2,3,4,5,6,7,8,9]]) (.seq (.seq (.reg false [om_ 89 18 [],oo_ 90 (.bin .neq (.t 89) (.d (.int .i64 0))) [0],om_ 91 90 [1],og_ 92 (.load true 3 (.t 17)) 91 false [2],og_ 93 (.load true 3 (.t 10)) 91 false [2],og_
 94 (.call 18 [(.t 92),(.t 93)]) 91 false [3,4,2,2],og_ 95 (.bin .lss (.t 94) (.d (.int .i64 0))) 91 false [5,2],oo_ 96 (.pick (.t 91) (.d (.bool true)) (.t 95)) [2,6]]) (.cond (.t 96) (.seq (.reg false [oo_ 6 (.mv (.d
 (.bool false))) []]) .ret) .skip)) (.reg false [om_ 97 12 [],om_ 98 97 [0],og_ 99 (.load true 3 (.t 17)) 98 false [1],og_ 100 (.load true 3 (.t 10)) 98 false [1],og_ 101 (.call 18 [(.t 99),(.t 100)]) 98 false
 [2,3,1,1],og_ 102 (.bin .eql (.t 101) (.d (.int .i64 0))) 98 false [4,1],oo_ 103 (.pick (.t 98) (.d (.bool true)) (.t 102)) [1,5],om_ 12 103 [6,4,0,1,2,3,4,5,6]])))))) (.reg false [oo_ 104 (.bin .add (.t 58) (.d (.int
 .i64 1))) [],om_ 58 104 [0]]))))))) (.seq (.reg false [om_ 105 12 [],om_ 6 105 [0,0]]) .ret))))))))))))
theorem o_ay : fnOf Tryz.prog o_5y = some (o_ax, [.t 6], 106, false) := by kernel_rfl

abbrev o_az : FuncId := 9
def o_b0 : C := (.seq (.reg false [oo_ 0 (.mv (.d (.bool false))) []]) (.seq (.reg false [oo_ 6 (.build [(.int .i64 0),(.int .i64 0),(.int .i64 0)] [(0,1,(.d (.int .i64 2))),(1,1,(.d (.int .i64 3))),(2,1,(.d (.int .i64 4)))]) [],oo_ 7
 (.build [(.int .i64 0),(.int .i64 0),(.int .i64 0),(.int .i64 0),(.int .i64 0)] [(0,1,(.d (.int .i64 1))),(1,1,(.d (.int .i64 1))),(2,3,(.t 6))]) [0],oo_ 8 (.build [(.int .u64 0),(.int .u64 0)] [(0,1,(.d (.int .u64
 1)))]) [],oo_ 9 (.bsl 62 2 1 [(.int .u64 0),(.int .u64 0)] [(0,2,(.t 8))]) [2],oo_ 10 (.call 11 [(.t 7),(.t 9)]) [1,3],om_ 5 10 [4],oo_ 11 (.ext (.t 5) 0) [5],oo_ 12 (.ext (.t 5) 1) [5],om_ 1 11 [6,4,0,1,2,3,4,5,6],om_
 2 12 [7,8,0,1,2,3,4,5,6,7,8]]) (.seq (.seq (.reg false [om_ 13 2 [],oo_ 14 (.bin .neq (.t 13) (.d (.int .i64 0))) [0],om_ 15 14 [1],og_ 16 (.mv (.t 1)) 15 false [2],og_ 17 (.pnl false (.t 16)) 15 false [3,2],oo_ 18
 (.pick (.t 15) (.d (.bool true)) (.t 17)) [2,4],om_ 19 18 [5,2],og_ 20 (.mv (.t 1)) 19 false [6],og_ 21 (.call 13 [(.d .nilsl)]) 19 false [6,6],og_ 22 (.call 14 [(.t 20),(.t 21),(.d (.int .u64 5)),(.d (.int .i64 3))])
 19 false [7,8,8,6],og_ 23 (.bin .neq (.t 22) (.d (.int .i64 0))) 19 false [9,6],oo_ 24 (.pick (.t 19) (.d (.bool true)) (.t 23)) [6,10],om_ 25 24 [11,9],og_ 26 (.mv (.t 1)) 25 false [12],og_ 27 (.call 13 [(.d .nilsl)])
 25 false [12,12],og_ 28 (.call 14 [(.t 26),(.t 27),(.d (.int .u64 9)),(.d (.int .i64 2))]) 25 false [13,14,14,12],og_ 29 (.bin .neq (.t 28) (.d (.int .i64 0))) 25 false [15,12],oo_ 30 (.pick (.t 25) (.d (.bool true))
 (.t 29)) [12,16]]) (.cond (.t 30) (.seq (.reg false [oo_ 0 (.mv (.d (.bool false))) []]) .ret) .skip)) (.seq (.reg false [om_ 32 1 [],oo_ 33 (.call 16 [(.t 32),(.d (.int .u64 77))]) [0],om_ 31 33 [1],oo_ 34 (.ext (.t
 31) 0) [2],oo_ 35 (.ext (.t 31) 1) [2],oo_ 3 (.new 51 [.nilsl,(.bool false),.nilsl]) [],on_ (.store 3 (.t 3) (.t 34)) [5,3,1,0,1,2,3,5],om_ 4 35 [4,6,0,1,2,3,4,5,6]]) (.seq (.reg false [om_ 36 4 [],oo_ 37 (.bin .eql (.t
 36) (.d (.int .i64 0))) [0],om_ 38 37 [1],og_ 39 (.load true 3 (.t 3)) 38 true [2],og_ 40 (.call 22 [(.t 39)]) 38 true [3,2,2],⟨some 41,.bin .eql (.t 40) (.d (.str ⟨#[53]⟩)),some (38,true),[4,2]⟩,oo_ 42 (.pick (.t 38)
 (.t 41) (.d (.bool false))) [2,5],om_ 43 42 [6,4],og_ 44 (.mv (.t 1)) 43 true [7],og_ 45 (.call 20 [(.t 44)]) 43 true [8,7,7],og_ 46 (.bin .eql (.t 45) (.d (.int .i64 5))) 43 true [9,7],oo_ 47 (.pick (.t 43) (.t 46) (.d
 (.bool false))) [7,10],om_ 0 47 [11,9,0,1,2,3,4,5,6,7,8,9,10,11]]) .ret)))))
theorem o_ob : fnOf Tryz.prog o_az = some (o_b0, [.t 0], 48, false) := by kernel_rfl

abbrev o_5z : FuncId := 10
def o_b1 : C := (.seq (.reg false [oo_ 1 (.box 26 (.t 0)) [],oo_ 2 (.new 32 [(.int .i64 0),(.int .i64 0),(.int .i64 0),(.int .i64 0),(.int .i64 0)]) []]) (.seq (.reg false [oo_ 6 (.fa 2 (.t 1)) [],oo_ 7 (.load true 3 (.t 6)) [0],oo_ 8
 (.build [(.int .i64 0),(.int .i64 0),(.bool false)] []) [],oo_ 9 (.call 45 [(.t 7),(.t 8)]) [1,2],om_ 5 9 [3],oo_ 10 (.ext (.t 5) 0) [4],oo_ 11 (.ext (.t 5) 1) [4],oo_ 3 (.new 23 [(.int .i64 0),(.int .i64 0),(.int .i64
 0)]) [],oo_ 4 (.new 100 [(.int .i64 0),(.int .i64 0),(.bool false)]) [],on_ (.store 3 (.t 3) (.t 10)) [7,5,3,0,1,2,3,4,5,7,8],on_ (.store 3 (.t 4) (.t 11)) [8,6,9,0,1,2,3,4,5,6,7,8,9]]) (.seq (.reg true [oo_ 12 (.fa 0
 (.t 1)) [],oo_ 13 (.load false 1 (.t 12)) [0],oo_ 14 (.bin .and (.t 13) (.d (.int .i64 3))) [1],oo_ 15 (.bin .add (.d (.int .i64 1)) (.t 14)) [2],oo_ 16 (.fa 1 (.t 1)) [],oo_ 17 (.load false 1 (.t 16)) [4],oo_ 18 (.bin
 .and (.t 17) (.d (.int .i64 255))) [5],oo_ 19 (.bin .rem (.t 18) (.d (.int .i64 64))) [6],oo_ 20 (.bin .add (.d (.int .i64 1)) (.t 19)) [7],oo_ 21 (.load true 3 (.t 3)) [],oo_ 22 (.call 46 [(.t 21)]) [9],oo_ 23 (.build
 [(.int .i64 0),(.int .i64 0),(.int .i64 0),(.int .i64 0),(.int .i64 0)] [(0,1,(.t 15)),(1,1,(.t 20)),(2,3,(.t 22))]) [3,8,10],on_ (.store 5 (.t 2) (.t 23)) [11,10,0,1,2,3,4,5,6,7,8,9,10,11]]) .ret)))
theorem o_oc : fnOf Tryz.prog o_5z = some (o_b1, [.cell 2 true 5], 24, false) := by kernel_rfl

abbrev o_b2 : FuncId := 11
def o_b3 : C := (.seq (.reg false [oo_ 2 (.box 32 (.t 0)) [],oo_ 4 (.mv (.d .nilp)) [],oo_ 5 (.mv (.d (.int .i64 0))) [1]]) (.seq (.seq (.reg false [oo_ 13 (.load true 5 (.t 2)) [],oo_ 14 (.call 34 [(.t 13)]) [0],om_ 6 14 [1,1,0,1]])
 (.block 0 (.seq (.reg false [om_ 16 6 [],oo_ 17 (.bin .neq (.t 16) (.d (.int .i64 0))) [0],om_ 15 17 [1]]) (.cond (.t 15) (.seq (.reg false [om_ 18 6 [],oo_ 4 (.mv (.d .nilp)) [],om_ 5 18 [0,1,0,1]]) .ret) (.seq (.reg
 false [om_ 20 1 [],oo_ 21 (.len (.t 20)) [0],oo_ 22 (.fa 0 (.t 2)) [],oo_ 23 (.load false 1 (.t 22)) [2],oo_ 24 (.bin .neq (.t 21) (.t 23)) [1,3],om_ 19 24 [4]]) (.cond (.t 19) (.seq (.reg false [oo_ 4 (.mv (.d .nilp))
 [],oo_ 5 (.mv (.d (.int .i64 10))) [0,0]]) .ret) .skip)))))) (.seq (.reg false [oo_ 25 (.load true 5 (.t 2)) [],oo_ 26 (.build [(.int .i64 0),(.int .i64 0),(.int .i64 0),(.int .i64 0),(.int .i64 0),.nilsl,(.int .i64 0)]
 [(0,5,(.t 25))]) [0],oo_ 27 (.box 106 (.t 26)) [1],om_ 7 27 [2,0,1,2]]) (.seq (.seq (.reg false [om_ 28 1 [],oo_ 29 (.len (.t 28)) [0],oo_ 30 (.mv (.d (.int .i64 0))) []]) (.block 1 (.loop (.seq (.reg false [oo_ 31
 (.bin .lss (.t 30) (.t 29)) []]) (.seq (.cond (.t 31) .skip (.exit 1)) (.seq (.block 2 (.seq (.reg false [oo_ 32 (.ix 2 (.t 28) (.t 30)) [],oo_ 33 (.load true 2 (.t 32)) [0],oo_ 9 (.new 62 [(.int .u64 0),(.int .u64 0)])
 [],on_ (.store 2 (.t 9) (.t 33)) [2,1,0,1,2]]) (.seq (.seq (.reg false [oo_ 34 (.load true 2 (.t 9)) [],oo_ 35 (.call 47 [(.t 34)]) [0],om_ 10 35 [1,1,0,1]]) (.seq (.reg false [om_ 36 10 [],oo_ 37 (.bin .neq (.t 36) (.d
 (.int .i64 0))) [0]]) (.cond (.t 37) (.seq (.reg false [om_ 38 10 [],oo_ 4 (.mv (.d .nilp)) [],om_ 5 38 [0,1,0,1]]) .ret) .skip))) (.seq (.reg false [oo_ 40 (.fa 2 (.t 2)) [],oo_ 41 (.load true 3 (.t 40)) [0],oo_ 42
 (.fa 1 (.t 2)) [],oo_ 43 (.load false 1 (.t 42)) [2],oo_ 44 (.call 48 [(.t 41),(.t 43)]) [1,3],om_ 39 44 [4],oo_ 45 (.ext (.t 39) 0) [5],oo_ 46 (.ext (.t 39) 1) [5],om_ 11 45 [6,4,0,1,2,3,4,5,6],om_ 12 46
 [7,8,0,1,2,3,4,5,6,7,8]]) (.seq (.seq (.reg false [om_ 47 12 [],oo_ 48 (.bin .neq (.t 47) (.d (.int .i64 0))) [0]]) (.cond (.t 48) (.seq (.reg false [om_ 49 12 [],oo_ 4 (.mv (.d .nilp)) [],om_ 5 49 [0,1,0,1]]) .ret)
 .skip)) (.reg true [om_ 50 7 [],om_ 51 7 [],oo_ 52 (.chk (.t 51)) [1],oo_ 53 (.fa 5 (.t 52)) [2],oo_ 54 (.load false 1 (.t 53)) [3],oo_ 55 (.load true 2 (.t 9)) [],om_ 56 11 [],oo_ 57 (.build [(.int .u64 0),(.int .u64
 0),.nilp] [(0,2,(.t 55)),(2,1,(.t 56))]) [5,6],oo_ 58 (.bsl 111 3 1 [(.int .u64 0),(.int .u64 0),.nilp] [(0,3,(.t 57))]) [7],oo_ 59 (.app 111 3 24 (.t 54) (.t 58)) [4,8],oo_ 60 (.chk (.t 50)) [0,0,1,2,3,4,5,6,7,8,9],oo_
 61 (.fa 5 (.t 60)) [10,0,1,2,3,4,5,6,7,8,9],on_ (.store 1 (.t 61) (.t 59)) [11,9,9,0,1,2,3,4,5,6,7,8,9]])))))) (.reg false [oo_ 62 (.bin .add (.t 30) (.d (.int .i64 1))) [],om_ 30 62 [0]]))))))) (.seq (.reg false [om_
 63 7 [],om_ 4 63 [0,0],oo_ 5 (.mv (.d (.int .i64 0))) [1,0,1]]) .ret)))))
theorem o_od : fnOf Tryz.prog o_b2 = some (o_b3, [.t 4, .t 5], 64, false) := by kernel_rfl

abbrev o_b4 : FuncId := 12
def o_b5 : C := (.seq (.reg false [oo_ 1 (.box 26 (.t 0)) [],oo_ 2 (.mv (.d .nilsl)) []]) (.seq (.reg false [oo_ 3 (.mv (.d .nilsl)) []]) (.seq (.reg false [oo_ 6 (.mkf (.func 49) [(.t 1)]) [],om_ 4 6 [0,0]]) (.seq (.seq (.reg false
 [oo_ 7 (.fa 0 (.t 1)) [],oo_ 8 (.load false 1 (.t 7)) [0],oo_ 9 (.bin .and (.t 8) (.d (.int .i64 3))) [1],oo_ 10 (.bin .add (.d (.int .i64 1)) (.t 9)) [2],oo_ 11 (.mv (.d (.int .i64 0))) []]) (.block 0 (.loop (.seq
 (.reg false [oo_ 12 (.bin .lss (.t 11) (.t 10)) []]) (.seq (.cond (.t 12) .skip (.exit 0)) (.seq (.block 1 (.seq (.reg false [om_ 13 11 [],om_ 5 13 [0,0]]) (.reg false [om_ 14 3 [],om_ 15 4 [],om_ 16 5 [],oo_ 17 (.bin
 .mul (.d (.int .i64 2)) (.t 16)) [2],oo_ 18 (.callv (.t 15) [(.t 17)]) [1,3],om_ 19 4 [],om_ 20 5 [],oo_ 21 (.bin .mul (.d (.int .i64 2)) (.t 20)) [6],oo_ 22 (.bin .add (.t 21) (.d (.int .i64 1))) [7],oo_ 23 (.callv (.t
 19) [(.t 22)]) [5,8,4],oo_ 24 (.build [(.int .u64 0),(.int .u64 0)] [(0,1,(.t 18)),(1,1,(.t 23))]) [4,9],oo_ 25 (.bsl 62 2 1 [(.int .u64 0),(.int .u64 0)] [(0,2,(.t 24))]) [10],oo_ 26 (.app 62 2 16 (.t 14) (.t 25))
 [0,11,9],om_ 3 26 [12,12,0,1,2,3,4,5,6,7,8,9,10,11,12]]))) (.reg false [oo_ 27 (.bin .add (.t 11) (.d (.int .i64 1))) [],om_ 11 27 [0]]))))))) (.seq (.reg false [om_ 28 3 [],om_ 2 28 [0,0]]) .ret)))))
theorem o_oe : fnOf Tryz.prog o_b4 = some (o_b5, [.t 2], 29, false) := by kernel_rfl

abbrev o_3k : FuncId := 13
def o_b6 : C := (.seq (.reg false [oo_ 2 (.mv (.d .nilp)) []]) (.seq (.reg false [om_ 3 0 [],om_ 4 0 [],oo_ 5 (.len (.t 4)) [1],oo_ 6 (.mm false [(.t 5),(.d (.int .i64 1048576))]) [2],oo_ 7 (.slice 1 (.t 3) none (some (.t 6)) none)
 [0,3],oo_ 8 (.call 50 [(.t 7)]) [4],oo_ 9 (.build [(.int .i64 0),(.bool false),.nilsl] [(2,1,(.t 8))]) [5],oo_ 10 (.box 117 (.t 9)) [6],om_ 2 10 [7,5,0,1,2,3,4,5,6,7]]) .ret))
theorem o_of : fnOf Tryz.prog o_3k = some (o_b6, [.t 2], 11, false) := by kernel_rfl

abbrev o_1w : FuncId := 14
def o_2j : C := (.seq (.reg false [oo_ 8 (.mv (.d (.int .i64 0))) []]) (.seq (.block 0 (.seq (.reg false [om_ 16 2 [],oo_ 17 (.bin .geq (.t 16) (.d (.int .u64 2305843009213693951))) [0],om_ 18 17 [1],og_ 19 (.mv (.t 3)) 18 false
 [2],og_ 20 (.bin .lss (.t 19) (.d (.int .i64 0))) 18 false [3,2],oo_ 21 (.pick (.t 18) (.d (.bool true)) (.t 20)) [2,4],om_ 22 21 [5,2],og_ 23 (.mv (.t 3)) 22 false [6],og_ 24 (.bin .gtr (.t 23) (.d (.int .i64
 1048576))) 22 false [7,6],oo_ 25 (.pick (.t 22) (.d (.bool true)) (.t 24)) [6,8],om_ 15 25 [9,6]]) (.cond (.t 15) (.seq (.reg false [oo_ 8 (.mv (.d (.int .i64 2))) []]) .ret) (.seq (.reg false [om_ 27 0 [],oo_ 28 (.chk
 (.t 27)) [0],oo_ 29 (.fa 6 (.t 28)) [1],oo_ 30 (.load false 1 (.t 29)) [2],om_ 31 3 [],oo_ 32 (.bin .add (.t 30) (.t 31)) [3,4],oo_ 33 (.bin .gtr (.t 32) (.d (.int .i64 1099511627776))) [5],om_ 26 33 [6]]) (.cond (.t
 26) (.seq (.reg false [oo_ 8 (.mv (.d (.int .i64 3))) []]) .ret) .skip))))) (.seq (.reg false [om_ 34 0 [],oo_ 35 (.call 29 [(.t 34)]) [0],om_ 9 35 [1,1,0,1]]) (.seq (.seq (.reg false [om_ 36 9 [],oo_ 37 (.chk (.t 36))
 [0],oo_ 38 (.fa 5 (.t 37)) [1],oo_ 39 (.load false 1 (.t 38)) [2],oo_ 40 (.len (.t 39)) [3],oo_ 41 (.mv (.d (.int .i64 0))) []]) (.block 1 (.loop (.seq (.reg false [oo_ 42 (.bin .lss (.t 41) (.t 40)) []]) (.seq (.cond
 (.t 42) .skip (.exit 1)) (.seq (.block 2 (.seq (.reg false [oo_ 43 (.ix 3 (.t 39) (.t 41)) [],oo_ 44 (.load true 3 (.t 43)) [0],oo_ 11 (.new 111 [(.int .u64 0),(.int .u64 0),.nilp]) [],on_ (.store 3 (.t 11) (.t 44))
 [2,1,0,1,2]]) (.seq (.reg true [oo_ 46 (.fa 0 (.t 11)) [],oo_ 47 (.load true 2 (.t 46)) [0],om_ 48 2 [],om_ 49 0 [],oo_ 50 (.chk (.t 49)) [3],oo_ 51 (.fa 0 (.t 50)) [4],oo_ 52 (.fa 1 (.t 51)) [5],oo_ 53 (.load false 1
 (.t 52)) [6],oo_ 54 (.call 51 [(.t 47),(.t 48),(.t 53)]) [1,2,7],om_ 45 54 [8],oo_ 55 (.ext (.t 45) 0) [9],oo_ 56 (.ext (.t 45) 1) [9],om_ 12 55 [10,8,0,1,2,3,4,5,6,7,8,9,10],om_ 13 56
 [11,12,0,1,2,3,4,5,6,7,8,9,10,11,12]]) (.seq (.reg false [oo_ 57 (.fa 2 (.t 11)) [],oo_ 58 (.load false 1 (.t 57)) [0],om_ 59 1 [],om_ 60 12 [],om_ 61 3 [],oo_ 62 (.call 52 [(.t 58),(.t 59),(.t 60),(.t 61)])
 [1,2,3,4],om_ 14 62 [5,5,0,1,2,3,4,5]]) (.seq (.reg false [om_ 63 14 [],oo_ 64 (.bin .neq (.t 63) (.d (.int .i64 0))) [0]]) (.cond (.t 64) (.seq (.reg false [om_ 65 14 [],om_ 8 65 [0,0]]) .ret) .skip)))))) (.reg false
 [oo_ 66 (.bin .add (.t 41) (.d (.int .i64 1))) [],om_ 41 66 [0]]))))))) (.seq (.reg false [om_ 67 9 [],oo_ 68 (.chk (.t 67)) [0],oo_ 69 (.fa 6 (.t 68)) [1],oo_ 70 (.load false 1 (.t 69)) [2],om_ 71 3 [],oo_ 72 (.bin
 .add (.t 70) (.t 71)) [3,4],oo_ 73 (.chk (.t 67)) [0,0,1,2,3,4,5],oo_ 74 (.fa 6 (.t 73)) [6,0,1,2,3,4,5],on_ (.store 1 (.t 74) (.t 72)) [7,5,0,1,2,3,4,5]]) (.seq (.reg false [om_ 75 0 [],om_ 76 9 [],oo_ 77 (.chk (.t
 76)) [1],oo_ 78 (.load true 7 (.t 77)) [2],oo_ 79 (.chk (.t 75)) [0,0,1,2,3],on_ (.store 7 (.t 79) (.t 78)) [4,3,0,1,2,3]]) (.seq (.reg false [oo_ 8 (.mv (.d (.int .i64 0))) []]) .ret)))))))
theorem o_3l : fnOf Tryz.prog o_1w = some (o_2j, [.t 8], 80, false) := by kernel_rfl

abbrev o_b7 : FuncId := 15
def o_b8 : C := (.seq (.reg false [oo_ 1 (.box 43 (.t 0)) [],oo_ 2 (.mv (.d (.int .u64 0))) []]) (.seq (.reg false [oo_ 3 (.fa 0 (.t 1)) [],oo_ 4 (.load false 1 (.t 3)) [0],oo_ 5 (.bin .rem (.t 4) (.d (.int .u64 2305843009213693951)))
 [1],om_ 2 5 [2,0,1,2]]) .ret))
theorem o_og : fnOf Tryz.prog o_b7 = some (o_b8, [.t 2], 6, false) := by kernel_rfl

abbrev o_60 : FuncId := 16
def o_61 : C := (.seq (.reg false [oo_ 4 (.new 51 [.nilsl,(.bool false),.nilsl]) [],oo_ 5 (.mv (.d (.int .i64 0))) []]) (.seq (.reg false [oo_ 6 (.new 51 [.nilsl,(.bool false),.nilsl]) []]) (.seq (.seq (.reg false [om_ 14 0 [],oo_ 15
 (.chk (.t 14)) [0],oo_ 16 (.fa 5 (.t 15)) [1],oo_ 17 (.load false 1 (.t 16)) [2],oo_ 18 (.len (.t 17)) [3],oo_ 19 (.mv (.d (.int .i64 0))) []]) (.block 0 (.loop (.seq (.reg false [oo_ 20 (.bin .lss (.t 19) (.t 18)) []])
 (.seq (.cond (.t 20) .skip (.exit 0)) (.seq (.block 1 (.seq (.reg false [om_ 21 19 [],oo_ 22 (.ix 3 (.t 17) (.t 19)) [],oo_ 23 (.load true 3 (.t 22)) [1],oo_ 8 (.new 111 [(.int .u64 0),(.int .u64 0),.nilp]) [],om_ 7 21
 [0,0,1,2,3],on_ (.store 3 (.t 8) (.t 23)) [3,2,4,0,1,2,3,4]]) (.seq (.reg true [oo_ 25 (.fa 0 (.t 8)) [],oo_ 26 (.load true 2 (.t 25)) [0],om_ 27 1 [],om_ 28 0 [],oo_ 29 (.chk (.t 28)) [3],oo_ 30 (.fa 0 (.t 29)) [4],oo_
 31 (.fa 1 (.t 30)) [5],oo_ 32 (.load false 1 (.t 31)) [6],oo_ 33 (.call 51 [(.t 26),(.t 27),(.t 32)]) [1,2,7],om_ 24 33 [8],oo_ 34 (.ext (.t 24) 0) [9],oo_ 35 (.ext (.t 24) 1) [9],om_ 9 34
 [10,8,0,1,2,3,4,5,6,7,8,9,10],om_ 10 35 [11,12,0,1,2,3,4,5,6,7,8,9,10,11,12]]) (.seq (.seq (.reg false [om_ 36 10 [],oo_ 37 (.bin .neq (.t 36) (.d (.int .i64 0))) [0]]) (.cond (.t 37) (.seq (.reg false [oo_ 38 (.build
 [.nilsl,(.bool false),.nilsl] []) [],om_ 39 10 [],on_ (.store 3 (.t 4) (.t 38)) [0,0],om_ 5 39 [1,2,0,1,2]]) .ret) .skip)) (.seq (.reg false [oo_ 41 (.fa 2 (.t 8)) [],oo_ 42 (.load false 1 (.t 41)) [0],om_ 43 9 [],oo_
 44 (.call 53 [(.t 42),(.t 43)]) [1,2],om_ 40 44 [3],oo_ 45 (.ext (.t 40) 0) [4],oo_ 46 (.ext (.t 40) 1) [4],oo_ 11 (.new 64 [(.int .i64 0),(.int .i64 0),(.bool false)]) [],on_ (.store 3 (.t 11) (.t 45))
 [7,5,3,0,1,2,3,4,5,7],om_ 12 46 [6,8,0,1,2,3,4,5,6,7,8]]) (.seq (.reg true [om_ 48 0 [],oo_ 49 (.chk (.t 48)) [0],oo_ 50 (.fa 0 (.t 49)) [1],oo_ 51 (.fa 2 (.t 50)) [2],oo_ 52 (.load true 3 (.t 51)) [3],oo_ 53 (.load
 true 3 (.t 11)) [],oo_ 54 (.call 27 [(.t 52),(.t 53)]) [4,5],om_ 47 54 [6],oo_ 55 (.ext (.t 47) 0) [7],oo_ 56 (.ext (.t 47) 1) [7],oo_ 13 (.new 51 [.nilsl,(.bool false),.nilsl]) [],on_ (.store 3 (.t 13) (.t 55))
 [10,8,6,0,1,2,3,4,5,6,7,8,10],om_ 10 56 [9,11,0,1,2,3,4,5,6,7,8,9,10,11]]) (.seq (.seq (.reg false [om_ 57 10 [],oo_ 58 (.bin .neq (.t 57) (.d (.int .i64 0))) [0]]) (.cond (.t 58) (.seq (.reg false [oo_ 59 (.build
 [.nilsl,(.bool false),.nilsl] []) [],om_ 60 10 [],on_ (.store 3 (.t 4) (.t 59)) [0,0],om_ 5 60 [1,2,0,1,2]]) .ret) .skip)) (.seq (.reg false [om_ 61 7 [],oo_ 62 (.bin .eql (.t 61) (.d (.int .i64 0))) [0],om_ 63 62
 [1],og_ 64 (.load true 3 (.t 13)) 63 false [2],og_ 65 (.load true 3 (.t 6)) 63 false [2],og_ 66 (.call 18 [(.t 64),(.t 65)]) 63 false [3,4,2,2],og_ 67 (.bin .lss (.t 66) (.d (.int .i64 0))) 63 false [5,2],oo_ 68 (.pick
 (.t 63) (.d (.bool true)) (.t 67)) [2,6]]) (.cond (.t 68) (.reg false [oo_ 69 (.load true 3 (.t 13)) [],on_ (.store 3 (.t 6) (.t 69)) [0,0]]) .skip))))))))) (.reg false [oo_ 70 (.bin .add (.t 19) (.d (.int .i64 1)))
 [],om_ 19 70 [0]]))))))) (.seq (.reg false [oo_ 71 (.load true 3 (.t 6)) [],on_ (.store 3 (.t 4) (.t 71)) [0,0],oo_ 5 (.mv (.d (.int .i64 0))) [1,0,1]]) .ret))))
theorem o_b9 : fnOf Tryz.prog o_60 = some (o_61, [.cell 4 true 3, .t 5], 72, false) := by kernel_rfl

abbrev o_ba : FuncId := 18
def o_bb : C := (.seq (.reg false [oo_ 2 (.box 51 (.t 0)) [],oo_ 3 (.box 51 (.t 1)) [],oo_ 4 (.mv (.d (.int .i64 0))) []]) (.seq (.reg true [oo_ 5 (.fa 0 (.t 2)) [],oo_ 6 (.load true 2 (.t 5)) [0],oo_ 7 (.load true 3 (.t 3)) [],oo_ 8
 (.call 56 [(.t 7)]) [2],oo_ 9 (.call 55 [(.t 6),(.t 8)]) [1,3,3],oo_ 10 (.fa 0 (.t 3)) [],oo_ 11 (.load true 2 (.t 10)) [5],oo_ 12 (.load true 3 (.t 2)) [],oo_ 13 (.call 56 [(.t 12)]) [7,4],oo_ 14 (.call 55 [(.t 11),(.t
 13)]) [6,8,8],oo_ 15 (.call 54 [(.t 9),(.t 14)]) [4,9,9],om_ 4 15 [10,10,0,1,2,3,4,5,6,7,8,9,10]]) .ret))
theorem o_oh : fnOf Tryz.prog o_ba = some (o_bb, [.t 4], 16, false) := by kernel_rfl

abbrev o_bc : FuncId := 19
def o_bd : C := (.seq (.reg false [oo_ 2 (.new 51 [.nilsl,(.bool false),.nilsl]) []]) (.seq (.reg false [om_ 3 0 [],oo_ 4 (.call 57 [(.t 3)]) [0],oo_ 5 (.build [.nilsl,(.bool false),.nilsl] [(0,2,(.t 4))]) [1],on_ (.store 3 (.t 2) (.t
 5)) [2,1,0,1,2]]) .ret))
theorem o_oi : fnOf Tryz.prog o_bc = some (o_bd, [.cell 2 true 3], 6, false) := by kernel_rfl

abbrev o_be : FuncId := 20
def o_bf : C := (.seq (.reg false [oo_ 2 (.mv (.d (.int .i64 0))) []]) (.seq (.reg false [om_ 3 0 [],oo_ 4 (.chk (.t 3)) [0],oo_ 5 (.fa 6 (.t 4)) [1],oo_ 6 (.load false 1 (.t 5)) [2],om_ 2 6 [3,0,1,2,3]]) .ret))
theorem o_oj : fnOf Tryz.prog o_be = some (o_bf, [.t 2], 7, false) := by kernel_rfl

abbrev o_bg : FuncId := 21
def o_bh : C := (.seq (.reg false [oo_ 3 (.box 26 (.t 0)) [],oo_ 6 (.mv (.d .nilp)) []]) (.seq (.reg true [oo_ 11 (.load true 6 (.t 3)) [],oo_ 12 (.call 10 [(.t 11)]) [0],oo_ 13 (.load true 6 (.t 3)) [],oo_ 14 (.call 12 [(.t 13)])
 [2,1],oo_ 15 (.call 11 [(.t 12),(.t 14)]) [1,3,3],om_ 10 15 [4],oo_ 16 (.ext (.t 10) 0) [5],oo_ 17 (.ext (.t 10) 1) [5],om_ 7 16 [6,4,0,1,2,3,4,5,6],om_ 8 17 [7,8,0,1,2,3,4,5,6,7,8]]) (.seq (.seq (.reg false [om_ 18 8
 [],oo_ 19 (.bin .neq (.t 18) (.d (.int .i64 0))) [0],om_ 20 19 [1],og_ 21 (.mv (.t 7)) 20 false [2],og_ 22 (.pnl false (.t 21)) 20 false [3,2],oo_ 23 (.pick (.t 20) (.d (.bool true)) (.t 22)) [2,4]]) (.cond (.t 23)
 (.seq (.reg false [oo_ 6 (.mv (.d .nilp)) []]) .ret) .skip)) (.seq (.seq (.reg false [oo_ 9 (.mv (.d (.int .i64 0))) []]) (.block 0 (.loop (.seq (.seq (.reg false [om_ 24 9 [],om_ 25 1 [],oo_ 26 (.len (.t 25)) [1],oo_
 27 (.bin .lss (.t 24) (.t 26)) [0,2],om_ 28 27 [3],og_ 29 (.mv (.t 9)) 28 true [4],og_ 30 (.bin .lss (.t 29) (.d (.int .i64 12))) 28 true [5,4],oo_ 31 (.pick (.t 28) (.t 30) (.d (.bool false))) [4,6]]) (.cond (.t 31)
 .skip (.exit 0))) (.seq (.block 1 (.reg true [om_ 34 7 [],om_ 35 2 [],om_ 36 1 [],om_ 37 9 [],oo_ 38 (.ix 2 (.t 36) (.t 37)) [2,3],oo_ 39 (.load true 2 (.t 38)) [4],oo_ 40 (.call 15 [(.t 39)]) [5],om_ 41 1 [],om_ 42 9
 [],oo_ 43 (.ix 2 (.t 41) (.t 42)) [7,8],oo_ 44 (.fa 1 (.t 43)) [9],oo_ 45 (.load false 1 (.t 44)) [10],oo_ 46 (.bin .and (.t 45) (.d (.int .i64 7))) [11],oo_ 47 (.call 14 [(.t 34),(.t 35),(.t 40),(.t 46)])
 [0,1,6,12,6]])) (.reg false [om_ 32 9 [],oo_ 33 (.bin .add (.t 32) (.d (.int .i64 1))) [0],om_ 9 33 [1,0,1]])))))) (.seq (.reg false [om_ 48 7 [],om_ 6 48 [0,0]]) .ret)))))
theorem o_ok : fnOf Tryz.prog o_bg = some (o_bh, [.t 6], 49, false) := by kernel_rfl

abbrev o_62 : FuncId := 22
def o_bi : C := (.seq (.reg false [oo_ 1 (.box 51 (.t 0)) [],⟨some 2,.mv (.d (.str ⟨#[]⟩)),none,[]⟩]) (.seq (.seq (.reg false [oo_ 3 (.load true 3 (.t 1)) [],oo_ 4 (.call 58 [(.t 3)]) [0]]) (.cond (.t 4) (.seq (.reg false [oo_ 5 (.fa 0
 (.t 1)) [],oo_ 6 (.load true 2 (.t 5)) [0],oo_ 7 (.call 59 [(.t 6)]) [1],om_ 2 7 [2,2,0,1,2]]) .ret) .skip)) (.seq (.reg true [oo_ 8 (.fa 0 (.t 1)) [],oo_ 9 (.load true 2 (.t 8)) [0],oo_ 10 (.call 59 [(.t 9)]) [1],⟨some
 11,.bin .add (.t 10) (.d (.str ⟨#[47]⟩)),none,[2]⟩,oo_ 12 (.load true 3 (.t 1)) [],oo_ 13 (.call 60 [(.t 12)]) [4,2],oo_ 14 (.call 61 [(.t 13)]) [5,5],oo_ 15 (.bin .add (.t 11) (.t 14)) [3,6],om_ 2 15
 [7,6,0,1,2,3,4,5,6,7]]) .ret)))
theorem o_ol : fnOf Tryz.prog o_62 = some (o_bi, [.t 2], 16, false) := by kernel_rfl

abbrev o_bj : FuncId := 23
def o_bk : C := (.seq (.reg false [oo_ 2 (.mv (.d .nilsl)) []]) (.seq (.reg false [oo_ 3 (.mv (.d .nilsl)) []]) (.seq (.seq (.reg false [om_ 6 0 [],oo_ 7 (.chk (.t 6)) [0],oo_ 8 (.fa 5 (.t 7)) [1],oo_ 9 (.load false 1 (.t 8)) [2],oo_
 10 (.len (.t 9)) [3],oo_ 11 (.mv (.d (.int .i64 0))) []]) (.block 0 (.loop (.seq (.reg false [oo_ 12 (.bin .lss (.t 11) (.t 10)) []]) (.seq (.cond (.t 12) .skip (.exit 0)) (.seq (.block 1 (.seq (.reg false [oo_ 13 (.ix
 3 (.t 9) (.t 11)) [],oo_ 14 (.load true 3 (.t 13)) [0],oo_ 5 (.new 111 [(.int .u64 0),(.int .u64 0),.nilp]) [],on_ (.store 3 (.t 5) (.t 14)) [2,1,0,1,2]]) (.reg false [om_ 15 3 [],oo_ 16 (.fa 0 (.t 5)) [],oo_ 17 (.load
 true 2 (.t 16)) [1],oo_ 18 (.bsl 62 2 1 [(.int .u64 0),(.int .u64 0)] [(0,2,(.t 17))]) [2],oo_ 19 (.app 62 2 16 (.t 15) (.t 18)) [0,3],om_ 3 19 [4,4,0,1,2,3,4]]))) (.reg false [oo_ 20 (.bin .add (.t 11) (.d (.int .i64
 1))) [],om_ 11 20 [0]]))))))) (.seq (.reg false [om_ 21 3 [],om_ 2 21 [0,0]]) .ret))))
theorem o_om : fnOf Tryz.prog o_bj = some (o_bk, [.t 2], 22, false) := by kernel_rfl

abbrev o_bl : FuncId := 24
def o_bm : C := (.seq (.reg false [oo_ 6 (.new 64 [(.int .i64 0),(.int .i64 0),(.bool false)]) [],oo_ 7 (.mv (.d (.int .i64 0))) []]) (.seq (.seq (.reg false [om_ 8 1 [],oo_ 9 (.bin .lss (.t 8) (.d (.int .i64 0))) [0],om_ 10 9 [1],og_
 11 (.mv (.t 1)) 10 false [2],og_ 12 (.mv (.t 0)) 10 false [2],og_ 13 (.chk (.t 12)) 10 false [4,2],og_ 14 (.fa 5 (.t 13)) 10 false [5,2],og_ 15 (.load false 1 (.t 14)) 10 false [6,2],og_ 16 (.len (.t 15)) 10 false
 [7,2],og_ 17 (.bin .geq (.t 11) (.t 16)) 10 false [3,8,2],oo_ 18 (.pick (.t 10) (.d (.bool true)) (.t 17)) [2,9]]) (.cond (.t 18) (.seq (.reg false [oo_ 19 (.build [(.int .i64 0),(.int .i64 0),(.bool false)] []) [],on_
 (.store 3 (.t 6) (.t 19)) [0,0],oo_ 7 (.mv (.d (.int .i64 1))) [1,0,1]]) .ret) .skip)) (.seq (.reg false [om_ 20 0 [],oo_ 21 (.chk (.t 20)) [0],oo_ 22 (.fa 5 (.t 21)) [1],oo_ 23 (.load false 1 (.t 22)) [2],om_ 24 1
 [],oo_ 25 (.ix 3 (.t 23) (.t 24)) [3,4],oo_ 26 (.fa 2 (.t 25)) [5],oo_ 27 (.load false 1 (.t 26)) [6],om_ 28 2 [],oo_ 29 (.call 53 [(.t 27),(.t 28)]) [7,8],oo_ 30 (.ext (.t 29) 0) [9],oo_ 31 (.ext (.t 29) 1) [9],on_
 (.store 3 (.t 6) (.t 30)) [10,9,0,1,2,3,4,5,6,7,8,9,10,11],om_ 7 31 [11,12,0,1,2,3,4,5,6,7,8,9,10,11,12]]) .ret)))
theorem o_on : fnOf Tryz.prog o_bl = some (o_bm, [.cell 6 true 3, .t 7], 32, false) := by kernel_rfl

abbrev o_bn : FuncId := 25
def o_bo : C := (.seq (.reg false [oo_ 6 (.mv (.d (.int .u64 0))) []]) (.seq (.reg false [om_ 7 0 [],oo_ 8 (.bsl 28 1 1 [(.int .u64 0)] [(0,1,(.t 7))]) [0],oo_ 9 (.call 65 [(.t 8)]) [1],om_ 10 2 [],oo_ 11 (.bsl 28 1 1 [(.int .u64 0)]
 [(0,1,(.t 10))]) [3],oo_ 12 (.call 65 [(.t 11)]) [4,2],oo_ 13 (.call 64 [(.t 9),(.t 12)]) [2,5,5],om_ 14 1 [],oo_ 15 (.bsl 28 1 1 [(.int .u64 0)] [(0,1,(.t 14))]) [7],oo_ 16 (.call 65 [(.t 15)]) [8,6],oo_ 17 (.call 63
 [(.t 13),(.t 16)]) [6,9,9],oo_ 18 (.call 62 [(.t 17),(.d (.int .u64 2305843009213693951))]) [10,10],om_ 6 18 [11,11,0,1,2,3,4,5,6,7,8,9,10,11]]) .ret))
theorem o_oo : fnOf Tryz.prog o_bn = some (o_bo, [.t 6], 19, false) := by kernel_rfl

abbrev o_bp : FuncId := 26
def o_bq : C := (.seq (.reg false [oo_ 2 (.new 32 [(.int .i64 0),(.int .i64 0),(.int .i64 0),(.int .i64 0),(.int .i64 0)]) []]) (.seq (.reg false [om_ 3 0 [],oo_ 4 (.chk (.t 3)) [0],oo_ 5 (.fa 0 (.t 4)) [1],oo_ 6 (.load true 5 (.t 5))
 [2],on_ (.store 5 (.t 2) (.t 6)) [3,0,1,2,3]]) .ret))
theorem o_op : fnOf Tryz.prog o_bp = some (o_bq, [.cell 2 true 5], 7, false) := by kernel_rfl

abbrev o_br : FuncId := 27
def o_63 : C := (.seq (.reg false [oo_ 2 (.box 30 (.t 0)) [],oo_ 3 (.box 64 (.t 1)) [],oo_ 4 (.new 51 [.nilsl,(.bool false),.nilsl]) [],oo_ 5 (.mv (.d (.int .i64 0))) []]) (.seq (.seq (.reg false [oo_ 9 (.load true 3 (.t 2)) [],oo_ 10
 (.load true 3 (.t 3)) [],oo_ 11 (.bsl 64 3 1 [(.int .i64 0),(.int .i64 0),(.bool false)] [(0,3,(.t 10))]) [1],oo_ 12 (.call 66 [(.t 9),(.t 11)]) [0,2],om_ 6 12 [3,3,0,1,2,3]]) (.seq (.reg false [om_ 13 6 [],oo_ 14 (.bin
 .neq (.t 13) (.d (.int .i64 0))) [0]]) (.cond (.t 14) (.seq (.reg false [oo_ 15 (.build [.nilsl,(.bool false),.nilsl] []) [],om_ 16 6 [],on_ (.store 3 (.t 4) (.t 15)) [0,0],om_ 5 16 [1,2,0,1,2]]) .ret) .skip))) (.seq
 (.seq (.reg false [oo_ 17 (.fa 0 (.t 2)) [],oo_ 18 (.load false 1 (.t 17)) [0],oo_ 19 (.bin .eql (.t 18) (.d (.int .i64 4))) [1]]) (.cond (.t 19) (.seq (.reg true [oo_ 21 (.load true 3 (.t 2)) [],oo_ 22 (.call 67 [(.t
 21)]) [0],oo_ 23 (.load true 3 (.t 3)) [],oo_ 24 (.call 69 [(.t 23)]) [2,1],oo_ 25 (.call 68 [(.t 22),(.t 24)]) [1,3,3],om_ 20 25 [4],oo_ 26 (.ext (.t 20) 0) [5],oo_ 27 (.ext (.t 20) 1) [5],oo_ 7 (.new 47 [.nilsl])
 [],on_ (.store 1 (.t 7) (.t 26)) [8,6,4,0,1,2,3,4,5,6,8],om_ 8 27 [7,9,0,1,2,3,4,5,6,7,8,9]]) (.seq (.reg false [oo_ 28 (.load true 1 (.t 7)) [],oo_ 29 (.call 70 [(.t 28)]) [0],om_ 30 8 [],on_ (.store 3 (.t 4) (.t 29))
 [1,1,0,1],om_ 5 30 [2,3,0,1,2,3]]) .ret)) .skip)) (.seq (.reg true [oo_ 31 (.load true 3 (.t 2)) [],oo_ 32 (.call 71 [(.t 31)]) [0],oo_ 33 (.fa 0 (.t 3)) [],oo_ 34 (.load false 1 (.t 33)) [2],oo_ 35 (.call 72 [(.t
 32),(.t 34)]) [1,3,1],oo_ 36 (.ext (.t 35) 0) [4],oo_ 37 (.ext (.t 35) 1) [4],on_ (.store 3 (.t 4) (.t 36)) [5,4,0,1,2,3,4,5,6],om_ 5 37 [6,7,0,1,2,3,4,5,6,7]]) .ret))))
theorem o_oq : fnOf Tryz.prog o_br = some (o_63, [.cell 4 true 3, .t 5], 38, false) := by kernel_rfl

abbrev o_2k : FuncId := 29
def o_2l : C := (.seq (.reg false [oo_ 2 (.mv (.d .nilp)) []]) (.seq (.reg false [om_ 6 0 [],oo_ 7 (.chk (.t 6)) [0],oo_ 8 (.load true 7 (.t 7)) [1],oo_ 3 (.new 106 [(.int .i64 0),(.int .i64 0),(.int .i64 0),(.int .i64 0),(.int .i64
 0),.nilsl,(.int .i64 0)]) [],on_ (.store 7 (.t 3) (.t 8)) [3,2,0,1,2,3]]) (.seq (.reg false [om_ 9 0 [],oo_ 10 (.chk (.t 9)) [0],oo_ 11 (.fa 5 (.t 10)) [1],oo_ 12 (.load false 1 (.t 11)) [2],oo_ 13 (.call 73 [(.t 12)])
 [3],oo_ 14 (.fa 5 (.t 3)) [0,1,2,3,4],on_ (.store 1 (.t 14) (.t 13)) [5,4,4,0,1,2,3,4]]) (.seq (.seq (.reg false [om_ 15 0 [],oo_ 16 (.chk (.t 15)) [0],oo_ 17 (.fa 5 (.t 16)) [1],oo_ 18 (.load false 1 (.t 17)) [2],oo_
 19 (.len (.t 18)) [3],oo_ 20 (.mv (.d (.int .i64 0))) []]) (.block 0 (.loop (.seq (.reg false [oo_ 21 (.bin .lss (.t 20) (.t 19)) []]) (.seq (.cond (.t 21) .skip (.exit 0)) (.seq (.block 1 (.seq (.reg false [om_ 22 20
 [],oo_ 23 (.ix 3 (.t 18) (.t 20)) [],oo_ 24 (.load true 3 (.t 23)) [1],oo_ 5 (.new 111 [(.int .u64 0),(.int .u64 0),.nilp]) [],om_ 4 22 [0,0,1,2,3],on_ (.store 3 (.t 5) (.t 24)) [3,2,4,0,1,2,3,4]]) (.reg true [oo_ 25
 (.fa 5 (.t 3)) [],oo_ 26 (.load false 1 (.t 25)) [0],om_ 27 4 [],oo_ 28 (.fa 2 (.t 5)) [],oo_ 29 (.load false 1 (.t 28)) [3],oo_ 30 (.call 74 [(.t 29)]) [4],oo_ 31 (.ix 3 (.t 26) (.t 27)) [1,2,0,1,2,3,4,5],oo_ 32 (.fa 2
 (.t 31)) [6,0,1,2,3,4,5],on_ (.store 1 (.t 32) (.t 30)) [7,5,5,0,1,2,3,4,5]]))) (.reg false [oo_ 33 (.bin .add (.t 20) (.d (.int .i64 1))) [],om_ 20 33 [0]]))))))) (.seq (.reg false [om_ 2 3 []]) .ret)))))
theorem o_3m : fnOf Tryz.prog o_2k = some (o_2l, [.t 2], 34, false) := by kernel_rfl

abbrev o_bs : FuncId := 31
def o_64 : C := (.seq (.reg false [oo_ 4 (.box 30 (.t 0)) [],oo_ 6 (.box 64 (.t 2)) [],oo_ 8 (.new 64 [(.int .i64 0),(.int .i64 0),(.bool false)]) [],oo_ 9 (.mv (.d (.int .i64 0))) []]) (.seq (.seq (.reg false [oo_ 15 (.load true 3 (.t
 4)) [],oo_ 16 (.load true 3 (.t 6)) [],oo_ 17 (.bsl 64 3 1 [(.int .i64 0),(.int .i64 0),(.bool false)] [(0,3,(.t 16))]) [1],oo_ 18 (.call 66 [(.t 15),(.t 17)]) [0,2],om_ 10 18 [3,3,0,1,2,3]]) (.seq (.reg false [om_ 19
 10 [],oo_ 20 (.bin .neq (.t 19) (.d (.int .i64 0))) [0]]) (.cond (.t 20) (.seq (.reg false [oo_ 21 (.load true 3 (.t 6)) [],om_ 22 10 [],on_ (.store 3 (.t 8) (.t 21)) [0,0],om_ 9 22 [1,2,0,1,2]]) .ret) .skip))) (.seq
 (.seq (.reg false [oo_ 23 (.fa 0 (.t 4)) [],oo_ 24 (.load false 1 (.t 23)) [0],oo_ 25 (.bin .eql (.t 24) (.d (.int .i64 4))) [1]]) (.cond (.t 25) (.seq (.reg true [oo_ 27 (.load true 3 (.t 4)) [],oo_ 28 (.call 67 [(.t
 27)]) [0],om_ 29 1 [],oo_ 30 (.load true 3 (.t 6)) [],oo_ 31 (.call 69 [(.t 30)]) [3,1],om_ 32 3 [],oo_ 33 (.call 79 [(.t 28),(.t 29),(.t 31),(.t 32)]) [1,2,4,5,4],om_ 26 33 [6],oo_ 34 (.ext (.t 26) 0) [7],oo_ 35 (.ext
 (.t 26) 1) [7],oo_ 11 (.new 139 [(.int .i64 0),(.int .i64 0),(.bool false)]) [],on_ (.store 3 (.t 11) (.t 34)) [10,8,6,0,1,2,3,4,5,6,7,8,10],om_ 12 35 [9,11,0,1,2,3,4,5,6,7,8,9,10,11]]) (.seq (.reg false [oo_ 36 (.load
 true 3 (.t 11)) [],oo_ 37 (.call 80 [(.t 36)]) [0],om_ 38 12 [],on_ (.store 3 (.t 8) (.t 37)) [1,1,0,1],om_ 9 38 [2,3,0,1,2,3]]) .ret)) .skip)) (.seq (.reg true [oo_ 40 (.load true 3 (.t 4)) [],oo_ 41 (.call 71 [(.t
 40)]) [0],om_ 42 1 [],oo_ 43 (.load true 3 (.t 6)) [],oo_ 44 (.call 82 [(.t 43)]) [3,1],om_ 45 3 [],oo_ 46 (.call 81 [(.t 41),(.t 42),(.t 44),(.t 45)]) [1,2,4,5,4],om_ 39 46 [6],oo_ 47 (.ext (.t 39) 0) [7],oo_ 48 (.ext
 (.t 39) 1) [7],oo_ 13 (.new 155 [(.int .i64 0),(.bool false)]) [],on_ (.store 2 (.t 13) (.t 47)) [10,8,6,0,1,2,3,4,5,6,7,8,10],om_ 14 48 [9,11,0,1,2,3,4,5,6,7,8,9,10,11]]) (.seq (.reg false [oo_ 49 (.load true 2 (.t
 13)) [],oo_ 50 (.call 83 [(.t 49)]) [0],om_ 51 14 [],on_ (.store 3 (.t 8) (.t 50)) [1,1,0,1],om_ 9 51 [2,3,0,1,2,3]]) .ret)))))
theorem o_or : fnOf Tryz.prog o_bs = some (o_64, [.cell 8 true 3, .t 9], 52, false) := by kernel_rfl

abbrev o_bt : FuncId := 34
def o_bu : C := (.seq (.reg false [oo_ 1 (.box 32 (.t 0)) [],oo_ 2 (.mv (.d (.int .i64 0))) []]) (.seq (.seq (.reg false [oo_ 3 (.fa 0 (.t 1)) [],oo_ 4 (.load false 1 (.t 3)) [0],oo_ 5 (.bin .lss (.t 4) (.d (.int .i64 1))) [1],om_ 6 5
 [2],og_ 7 (.fa 0 (.t 1)) 6 false [3],og_ 8 (.load false 1 (.t 7)) 6 false [4,3],og_ 9 (.bin .gtr (.t 8) (.d (.int .i64 4))) 6 false [5,3],oo_ 10 (.pick (.t 6) (.d (.bool true)) (.t 9)) [3,6],om_ 11 10 [7,3],og_ 12 (.fa
 1 (.t 1)) 11 false [8],og_ 13 (.load false 1 (.t 12)) 11 false [9,8],og_ 14 (.bin .lss (.t 13) (.d (.int .i64 1))) 11 false [10,8],oo_ 15 (.pick (.t 11) (.d (.bool true)) (.t 14)) [8,11],om_ 16 15 [12,8],og_ 17 (.fa 1
 (.t 1)) 16 false [13],og_ 18 (.load false 1 (.t 17)) 16 false [14,13],og_ 19 (.bin .gtr (.t 18) (.d (.int .i64 64))) 16 false [15,13],oo_ 20 (.pick (.t 16) (.d (.bool true)) (.t 19)) [13,16]]) (.cond (.t 20) (.seq (.reg
 false [oo_ 2 (.mv (.d (.int .i64 10))) []]) .ret) .skip)) (.seq (.reg false [oo_ 21 (.fa 2 (.t 1)) [],oo_ 22 (.load true 3 (.t 21)) [0],oo_ 23 (.call 85 [(.t 22)]) [1],om_ 2 23 [2,2,0,1,2]]) .ret)))
theorem o_os : fnOf Tryz.prog o_bt = some (o_bu, [.t 2], 24, false) := by kernel_rfl

abbrev o_2m : FuncId := 38
def o_bv : C := (.seq (.reg false [oo_ 2 (.mv (.d .nilp)) []]) (.seq (.reg false [om_ 3 0 [],oo_ 4 (.call 92 [(.t 3)]) [0],oo_ 5 (.build [.nilsl,(.int .i64 0)] [(0,1,(.t 4))]) [1],oo_ 6 (.box 174 (.t 5)) [2],om_ 2 6 [3,1,0,1,2,3]])
 .ret))
theorem o_ot : fnOf Tryz.prog o_2m = some (o_bv, [.t 2], 7, false) := by kernel_rfl

abbrev o_bw : FuncId := 39
def o_bx : C := (.seq (.reg false [oo_ 2 (.mv (.d .nilsl)) []]) (.seq (.reg false [om_ 4 0 [],oo_ 5 (.chk (.t 4)) [0],oo_ 6 (.fa 0 (.t 5)) [1],oo_ 7 (.load false 1 (.t 6)) [2],oo_ 8 (.len (.t 7)) [3],oo_ 9 (.mksl 5 1 1 [(.int .u8 0)]
 (.t 8) (.t 8)) [4,4],om_ 3 9 [5,0,1,2,3,4,5]]) (.seq (.reg false [om_ 10 3 [],om_ 11 0 [],oo_ 12 (.chk (.t 11)) [1],oo_ 13 (.fa 0 (.t 12)) [2],oo_ 14 (.load false 1 (.t 13)) [3],oo_ 15 (.cpy 1 (.t 10) (.t 14)) [0,4]])
 (.seq (.reg false [om_ 16 3 [],om_ 2 16 [0,0]]) .ret))))
theorem o_ou : fnOf Tryz.prog o_bw = some (o_bx, [.t 2], 17, false) := by kernel_rfl

abbrev o_by : FuncId := 41
def o_bz : C := (.seq (.reg false [oo_ 2 (.mv (.d (.bool false))) [],oo_ 3 (.mv (.d (.int .i64 0))) [0]]) (.seq (.reg false [om_ 7 0 [],oo_ 8 (.call 90 [(.t 7),(.d (.int .i64 1))]) [0],om_ 6 8 [1],oo_ 9 (.ext (.t 6) 0) [2],oo_ 10 (.ext
 (.t 6) 1) [2],om_ 4 9 [3,1,0,1,2,3],om_ 5 10 [4,5,0,1,2,3,4,5]]) (.seq (.reg false [om_ 11 4 [],oo_ 12 (.bin .eql (.t 11) (.d (.int .u64 1))) [0],om_ 13 5 [],om_ 2 12 [1,0,1],om_ 3 13 [2,3,0,1,2,3]]) .ret)))
theorem o_ov : fnOf Tryz.prog o_by = some (o_bz, [.t 2, .t 3], 14, false) := by kernel_rfl

abbrev o_c0 : FuncId := 42
def o_c1 : C := (.seq (.reg false [oo_ 2 (.mv (.d (.int .i64 0))) []]) (.seq (.reg true [om_ 3 0 [],oo_ 4 (.chk (.t 3)) [0],oo_ 5 (.fa 0 (.t 4)) [1],oo_ 6 (.load false 1 (.t 5)) [2],oo_ 7 (.len (.t 6)) [3],oo_ 8 (.bin .mul (.d (.int
 .i64 8)) (.t 7)) [4],om_ 9 0 [],oo_ 10 (.chk (.t 9)) [6],oo_ 11 (.fa 1 (.t 10)) [7],oo_ 12 (.load false 1 (.t 11)) [8],oo_ 13 (.bin .sub (.t 8) (.t 12)) [5,9],om_ 2 13 [10,0,1,2,3,4,5,6,7,8,9,10]]) .ret))
theorem o_ow : fnOf Tryz.prog o_c0 = some (o_c1, [.t 2], 14, false) := by kernel_rfl

abbrev o_c2 : FuncId := 45
def o_2n : C := (.seq (.reg false [oo_ 2 (.box 23 (.t 0)) [],oo_ 3 (.box 100 (.t 1)) [],oo_ 4 (.new 23 [(.int .i64 0),(.int .i64 0),(.int .i64 0)]) [],oo_ 5 (.new 100 [(.int .i64 0),(.int .i64 0),(.bool false)]) []]) (.seq (.reg false
 [oo_ 6 (.fa 0 (.t 2)) [],oo_ 7 (.load false 1 (.t 6)) [0],oo_ 8 (.bin .rem (.t 7) (.d (.int .i64 4))) [1],oo_ 9 (.bin .add (.t 8) (.d (.int .i64 4))) [2],oo_ 10 (.bin .rem (.t 9) (.d (.int .i64 4))) [3],oo_ 11 (.bin
 .add (.d (.int .i64 1)) (.t 10)) [4],oo_ 12 (.fa 0 (.t 2)) [0,1,2,3,4,5],on_ (.store 1 (.t 12) (.t 11)) [6,5,0,1,2,3,4,5]]) (.seq (.seq (.reg false [oo_ 13 (.fa 0 (.t 2)) [],oo_ 14 (.load false 1 (.t 13)) [0]]) (.block
 0 (.seq (.reg false [oo_ 25 (.bin .eql (.t 14) (.d (.int .i64 1))) [],om_ 24 25 [0]]) (.cond (.t 24) (.reg false [oo_ 26 (.fa 1 (.t 2)) [],oo_ 27 (.load false 1 (.t 26)) [0],oo_ 28 (.bin .and (.t 27) (.d (.int .i64 3)))
 [1],oo_ 29 (.bin .add (.d (.int .i64 1)) (.t 28)) [2],oo_ 30 (.fa 2 (.t 2)) [],oo_ 31 (.load false 1 (.t 30)) [4],oo_ 32 (.bin .and (.t 31) (.d (.int .i64 255))) [5],oo_ 33 (.bin .rem (.t 32) (.d (.int .i64 4))) [6],oo_
 34 (.bin .add (.d (.int .i64 1)) (.t 33)) [7],oo_ 35 (.fa 1 (.t 2)) [0,1,2,3,4,5],on_ (.store 1 (.t 35) (.t 29)) [9,3,0,1,2,3,4,5],oo_ 36 (.fa 2 (.t 2)) [0,1,2,3,4,5,6,7,8,9,10],on_ (.store 1 (.t 36) (.t 34))
 [11,8,10,0,1,2,3,4,5,6,7,8,9,10]]) (.seq (.reg false [oo_ 38 (.bin .eql (.t 14) (.d (.int .i64 2))) [],om_ 37 38 [0]]) (.cond (.t 37) (.reg false [oo_ 39 (.fa 1 (.t 2)) [],oo_ 40 (.load false 1 (.t 39)) [0],oo_ 41 (.bin
 .and (.t 40) (.d (.int .i64 1))) [1],oo_ 42 (.fa 2 (.t 2)) [],oo_ 43 (.load false 1 (.t 42)) [3],oo_ 44 (.bin .and (.t 43) (.d (.int .i64 255))) [4],oo_ 45 (.bin .rem (.t 44) (.d (.int .i64 4))) [5],oo_ 46 (.bin .add
 (.d (.int .i64 1)) (.t 45)) [6],oo_ 47 (.fa 1 (.t 2)) [0,1,2,3,4],on_ (.store 1 (.t 47) (.t 41)) [8,2,0,1,2,3,4],oo_ 48 (.fa 2 (.t 2)) [0,1,2,3,4,5,6,7,8,9],on_ (.store 1 (.t 48) (.t 46)) [10,7,9,0,1,2,3,4,5,6,7,8,9]])
 (.seq (.reg false [oo_ 50 (.bin .eql (.t 14) (.d (.int .i64 3))) [],om_ 49 50 [0]]) (.cond (.t 49) (.reg false [oo_ 51 (.fa 1 (.t 2)) [],oo_ 52 (.load false 1 (.t 51)) [0],oo_ 53 (.bin .and (.t 52) (.d (.int .i64 1)))
 [1],oo_ 54 (.bin .add (.d (.int .i64 1)) (.t 53)) [2],oo_ 55 (.fa 2 (.t 2)) [],oo_ 56 (.load false 1 (.t 55)) [4],oo_ 57 (.bin .and (.t 56) (.d (.int .i64 255))) [5],oo_ 58 (.bin .rem (.t 57) (.d (.int .i64 4))) [6],oo_
 59 (.bin .add (.d (.int .i64 1)) (.t 58)) [7],oo_ 60 (.fa 1 (.t 2)) [0,1,2,3,4,5],on_ (.store 1 (.t 60) (.t 54)) [9,3,0,1,2,3,4,5],oo_ 61 (.fa 2 (.t 2)) [0,1,2,3,4,5,6,7,8,9,10],on_ (.store 1 (.t 61) (.t 59))
 [11,8,10,0,1,2,3,4,5,6,7,8,9,10]]) (.reg false [oo_ 15 (.fa 1 (.t 2)) [],oo_ 16 (.load false 1 (.t 15)) [0],oo_ 17 (.bin .and (.t 16) (.d (.int .i64 7))) [1],oo_ 18 (.bin .add (.d (.int .i64 1)) (.t 17)) [2],oo_ 19 (.fa
 2 (.t 2)) [],oo_ 20 (.load false 1 (.t 19)) [4],oo_ 21 (.bin .and (.t 20) (.d (.int .i64 3))) [5],oo_ 22 (.fa 1 (.t 2)) [0,1,2,3,4,5],on_ (.store 1 (.t 22) (.t 18)) [7,3,0,1,2,3,4,5],oo_ 23 (.fa 2 (.t 2))
 [0,1,2,3,4,5,6,7,8],on_ (.store 1 (.t 23) (.t 21)) [9,6,8,0,1,2,3,4,5,6,7,8]]))))))))) (.seq (.reg true [oo_ 62 (.load true 3 (.t 2)) [],oo_ 63 (.load true 3 (.t 2)) [],oo_ 64 (.load true 3 (.t 3)) [],oo_ 65 (.call 97
 [(.t 63),(.t 64)]) [1,2],on_ (.store 3 (.t 4) (.t 62)) [0,3,0],on_ (.store 3 (.t 5) (.t 65)) [3,4,0,1,2,3,4]]) .ret))))
theorem o_3n : fnOf Tryz.prog o_c2 = some (o_2n, [.cell 4 true 3, .cell 5 true 3], 66, false) := by kernel_rfl

abbrev o_c3 : FuncId := 46
def o_c4 : C := (.seq (.reg false [oo_ 1 (.box 23 (.t 0)) [],oo_ 2 (.new 30 [(.int .i64 0),(.int .i64 0),(.int .i64 0)]) []]) (.seq (.reg false [oo_ 3 (.fa 0 (.t 1)) [],oo_ 4 (.load false 1 (.t 3)) [0],oo_ 5 (.fa 1 (.t 1)) [],oo_ 6
 (.load false 1 (.t 5)) [2],oo_ 7 (.fa 2 (.t 1)) [],oo_ 8 (.load false 1 (.t 7)) [4],oo_ 9 (.build [(.int .i64 0),(.int .i64 0),(.int .i64 0)] [(0,1,(.t 4)),(1,1,(.t 6)),(2,1,(.t 8))]) [1,3,5],on_ (.store 3 (.t 2) (.t
 9)) [6,0,1,2,3,4,5,6]]) .ret))
theorem o_ox : fnOf Tryz.prog o_c3 = some (o_c4, [.cell 2 true 3], 10, false) := by kernel_rfl

abbrev o_c5 : FuncId := 47
def o_c6 : C := (.seq (.reg false [oo_ 1 (.box 62 (.t 0)) [],oo_ 2 (.mv (.d (.int .i64 0))) []]) (.seq (.seq (.reg false [oo_ 3 (.fa 0 (.t 1)) [],oo_ 4 (.load false 1 (.t 3)) [0],oo_ 5 (.bin .geq (.t 4) (.d (.int .u64
 2305843009213693951))) [1],om_ 6 5 [2],og_ 7 (.fa 1 (.t 1)) 6 false [3],og_ 8 (.load false 1 (.t 7)) 6 false [4,3],og_ 9 (.bin .geq (.t 8) (.d (.int .u64 2305843009213693951))) 6 false [5,3],oo_ 10 (.pick (.t 6) (.d
 (.bool true)) (.t 9)) [3,6]]) (.cond (.t 10) (.seq (.reg false [oo_ 2 (.mv (.d (.int .i64 2))) []]) .ret) .skip)) (.seq (.reg false [oo_ 2 (.mv (.d (.int .i64 0))) []]) .ret)))
theorem o_oy : fnOf Tryz.prog o_c5 = some (o_c6, [.t 2], 11, false) := by kernel_rfl

abbrev o_c7 : FuncId := 48
def o_c8 : C := (.seq (.reg false [oo_ 2 (.box 30 (.t 0)) [],oo_ 4 (.mv (.d .nilp)) [],oo_ 5 (.mv (.d (.int .i64 0))) [1]]) (.seq (.seq (.reg false [oo_ 8 (.load true 3 (.t 2)) [],oo_ 9 (.call 85 [(.t 8)]) [0],oo_ 10 (.bin .neq (.t 9)
 (.d (.int .i64 0))) [1],om_ 11 10 [2,1],og_ 12 (.mv (.t 1)) 11 false [3],og_ 13 (.bin .lss (.t 12) (.d (.int .i64 1))) 11 false [4,3],oo_ 14 (.pick (.t 11) (.d (.bool true)) (.t 13)) [3,5],om_ 15 14 [6,3],og_ 16 (.mv
 (.t 1)) 15 false [7],og_ 17 (.bin .gtr (.t 16) (.d (.int .i64 256))) 15 false [8,7],oo_ 18 (.pick (.t 15) (.d (.bool true)) (.t 17)) [7,9]]) (.cond (.t 18) (.seq (.reg false [oo_ 4 (.mv (.d .nilp)) [],oo_ 5 (.mv (.d
 (.int .i64 10))) [0,0]]) .ret) .skip)) (.seq (.reg false [om_ 20 1 [],oo_ 21 (.load true 3 (.t 2)) [],oo_ 22 (.call 99 [(.t 21)]) [1],oo_ 23 (.call 98 [(.t 20),(.t 22)]) [0,2,2],om_ 19 23 [3],oo_ 24 (.ext (.t 19) 0)
 [4],oo_ 25 (.ext (.t 19) 1) [4],om_ 6 24 [5,3,0,1,2,3,4,5],om_ 7 25 [6,7,0,1,2,3,4,5,6,7]]) (.seq (.seq (.reg false [om_ 26 7 [],oo_ 27 (.bin .neq (.t 26) (.d (.int .i64 0))) [0]]) (.cond (.t 27) (.seq (.reg false [om_
 28 7 [],oo_ 4 (.mv (.d .nilp)) [],om_ 5 28 [0,1,0,1]]) .ret) .skip)) (.seq (.reg false [om_ 29 6 [],oo_ 30 (.load true 3 (.t 2)) [],oo_ 31 (.build [.nilp,(.int .i64 0),(.int .i64 0),(.int .i64 0)] [(0,1,(.t
 29)),(1,3,(.t 30))]) [0,1],oo_ 32 (.box 166 (.t 31)) [2],om_ 4 32 [3,0,1,2,3],oo_ 5 (.mv (.d (.int .i64 0))) [4,0,1,2,3,4]]) .ret)))))
theorem o_oz : fnOf Tryz.prog o_c7 = some (o_c8, [.t 4, .t 5], 33, false) := by kernel_rfl

abbrev o_65 : FuncId := 49
def o_c9 : C := (.seq (.reg false [oo_ 3 (.mv (.d (.int .u64 0))) []]) (.seq (.seq (.reg false [om_ 4 0 [],oo_ 5 (.fa 5 (.t 1)) [],oo_ 6 (.load false 1 (.t 5)) [1],oo_ 7 (.len (.t 6)) [2],oo_ 8 (.bin .lss (.t 4) (.t 7)) [0,3]]) (.cond
 (.t 8) (.seq (.reg false [oo_ 9 (.fa 5 (.t 1)) [],oo_ 10 (.load false 1 (.t 9)) [0],om_ 11 0 [],oo_ 12 (.ix 1 (.t 10) (.t 11)) [1,2],oo_ 13 (.load false 1 (.t 12)) [3],oo_ 14 (.bin .rem (.t 13) (.d (.int .u64
 2305843009213693951))) [4],om_ 3 14 [5,0,1,2,3,4,5]]) .ret) .skip)) (.seq (.reg false [om_ 15 0 [],oo_ 16 (.bin .add (.t 15) (.d (.int .i64 1))) [0],oo_ 17 (.conv .u64 (.t 16)) [1],om_ 3 17 [2,0,1,2]]) .ret)))
theorem o_p0 : fnOf Tryz.prog o_65 = some (o_c9, [.t 3], 18, false) := by kernel_rfl

abbrev o_ca : FuncId := 50
def o_cb : C := (.seq (.reg false [oo_ 2 (.mv (.d .nilsl)) []]) (.seq (.seq (.reg false [om_ 3 0 [],oo_ 4 (.snl false (.t 3)) [0]]) (.cond (.t 4) (.seq (.reg false [oo_ 2 (.mv (.d .nilsl)) []]) .ret) .skip)) (.seq (.reg false [oo_ 5
 (.bsl0) [],om_ 6 0 [],oo_ 7 (.app 4 1 1 (.t 5) (.t 6)) [0,1],om_ 2 7 [2,2,0,1,2]]) .ret)))
theorem o_p1 : fnOf Tryz.prog o_ca = some (o_cb, [.t 2], 8, false) := by kernel_rfl

abbrev o_66 : FuncId := 51
def o_67 : C := (.seq (.reg false [oo_ 3 (.box 62 (.t 0)) [],oo_ 6 (.mv (.d (.int .i64 0))) [],oo_ 7 (.mv (.d (.int .i64 0))) [1]]) (.seq (.seq (.reg false [oo_ 9 (.load true 2 (.t 3)) [],oo_ 10 (.call 47 [(.t 9)]) [0],om_ 8 10
 [1,1,0,1]]) (.block 0 (.seq (.reg false [om_ 12 8 [],oo_ 13 (.bin .neq (.t 12) (.d (.int .i64 0))) [0],om_ 11 13 [1]]) (.cond (.t 11) (.seq (.reg false [om_ 14 8 [],oo_ 6 (.mv (.d (.int .i64 0))) [],om_ 7 14 [0,1,0,1]])
 .ret) (.seq (.reg false [om_ 16 1 [],oo_ 17 (.bin .geq (.t 16) (.d (.int .u64 2305843009213693951))) [0],om_ 15 17 [1]]) (.cond (.t 15) (.seq (.reg false [oo_ 6 (.mv (.d (.int .i64 0))) [],oo_ 7 (.mv (.d (.int .i64 2)))
 [0,0]]) .ret) (.seq (.reg false [om_ 19 2 [],oo_ 20 (.bin .lss (.t 19) (.d (.int .i64 1))) [0],om_ 21 20 [1],og_ 22 (.mv (.t 2)) 21 false [2],og_ 23 (.bin .gtr (.t 22) (.d (.int .i64 64))) 21 false [3,2],oo_ 24 (.pick
 (.t 21) (.d (.bool true)) (.t 23)) [2,4],om_ 18 24 [5,2]]) (.cond (.t 18) (.seq (.reg false [oo_ 6 (.mv (.d (.int .i64 0))) [],oo_ 7 (.mv (.d (.int .i64 10))) [0,0]]) .ret) .skip)))))))) (.seq (.reg false [oo_ 25 (.load
 true 2 (.t 3)) [],om_ 26 1 [],oo_ 27 (.call 100 [(.t 25),(.t 26)]) [0,1],om_ 28 2 [],oo_ 29 (.conv .u64 (.t 28)) [3],oo_ 30 (.bin .rem (.t 27) (.t 29)) [2,4],oo_ 31 (.conv .i64 (.t 30)) [5],om_ 6 31
 [6,2,0,1,2,3,4,5,6],oo_ 7 (.mv (.d (.int .i64 0))) [7,0,1,2,3,4,5,6,7]]) .ret)))
theorem o_cc : fnOf Tryz.prog o_66 = some (o_67, [.t 6, .t 7], 32, false) := by kernel_rfl

abbrev o_68 : FuncId := 52
def o_69 : C := (.seq (.reg false [oo_ 8 (.mv (.d (.int .i64 0))) []]) (.seq (.reg false [om_ 12 0 [],om_ 13 2 [],oo_ 14 (.call 53 [(.t 12),(.t 13)]) [0,1],om_ 11 14 [2],oo_ 15 (.ext (.t 11) 0) [3],oo_ 16 (.ext (.t 11) 1) [3],oo_ 9
 (.new 64 [(.int .i64 0),(.int .i64 0),(.bool false)]) [],on_ (.store 3 (.t 9) (.t 15)) [6,4,2,0,1,2,3,4,6],om_ 10 16 [5,7,0,1,2,3,4,5,6,7]]) (.seq (.seq (.reg false [om_ 17 10 [],oo_ 18 (.bin .neq (.t 17) (.d (.int .i64
 0))) [0]]) (.cond (.t 18) (.seq (.reg false [om_ 19 10 [],om_ 8 19 [0,0]]) .ret) .skip)) (.seq (.seq (.reg true [om_ 21 0 [],oo_ 22 (.chk (.t 21)) [0],oo_ 23 (.fa 1 (.t 22)) [1],oo_ 24 (.load true 3 (.t 23)) [2],om_ 25
 1 [],oo_ 26 (.load true 3 (.t 9)) [],om_ 27 3 [],oo_ 28 (.call 31 [(.t 24),(.t 25),(.t 26),(.t 27)]) [3,4,5,6],om_ 20 28 [7],oo_ 29 (.ext (.t 20) 0) [8],oo_ 30 (.ext (.t 20) 1) [8],on_ (.store 3 (.t 9) (.t 29))
 [9,7,0,1,2,3,4,5,6,7,8,9],om_ 10 30 [10,11,0,1,2,3,4,5,6,7,8,9,10,11]]) (.seq (.reg false [om_ 31 10 [],oo_ 32 (.bin .neq (.t 31) (.d (.int .i64 0))) [0]]) (.cond (.t 32) (.seq (.reg false [om_ 33 10 [],om_ 8 33 [0,0]])
 .ret) .skip))) (.seq (.reg false [om_ 34 0 [],om_ 35 2 [],oo_ 36 (.load true 3 (.t 9)) [],oo_ 37 (.call 101 [(.t 34),(.t 35),(.t 36)]) [0,1,2],om_ 8 37 [3,3,0,1,2,3]]) .ret)))))
theorem o_p2 : fnOf Tryz.prog o_68 = some (o_69, [.t 8], 38, false) := by kernel_rfl

abbrev o_6a : FuncId := 53
def o_6b : C := (.seq (.reg false [oo_ 4 (.new 64 [(.int .i64 0),(.int .i64 0),(.bool false)]) [],oo_ 5 (.mv (.d (.int .i64 0))) []]) (.seq (.reg false [om_ 10 0 [],oo_ 11 (.chk (.t 10)) [0],oo_ 12 (.fa 0 (.t 11)) [1],oo_ 13 (.load
 false 1 (.t 12)) [2],om_ 14 1 [],oo_ 15 (.call 102 [(.t 13),(.t 14)]) [3,4],om_ 9 15 [5],oo_ 16 (.ext (.t 9) 0) [6],oo_ 17 (.ext (.t 9) 1) [6],om_ 6 16 [7,5,0,1,2,3,4,5,6,7],om_ 7 17 [8,9,0,1,2,3,4,5,6,7,8,9]]) (.seq
 (.seq (.reg false [om_ 18 7 [],oo_ 19 (.bin .neq (.t 18) (.d (.int .i64 0))) [0]]) (.cond (.t 19) (.seq (.reg false [oo_ 20 (.build [(.int .i64 0),(.int .i64 0),(.bool false)] []) [],om_ 21 7 [],on_ (.store 3 (.t 4) (.t
 20)) [0,0],om_ 5 21 [1,2,0,1,2]]) .ret) .skip)) (.seq (.reg false [oo_ 8 (.new 85 [.nilsl,(.int .i64 0)]) []]) (.seq (.reg false [om_ 22 6 [],om_ 23 0 [],oo_ 24 (.chk (.t 23)) [1],oo_ 25 (.fa 0 (.t 24)) [2],oo_ 26
 (.load false 1 (.t 25)) [3],oo_ 27 (.call 103 [(.t 26)]) [4],oo_ 28 (.call 87 [(.t 8),(.t 22),(.t 27)]) [0,5,5]]) (.seq (.reg true [om_ 29 0 [],oo_ 30 (.chk (.t 29)) [0],oo_ 31 (.fa 1 (.t 30)) [1],oo_ 32 (.load true 3
 (.t 31)) [2],oo_ 33 (.call 39 [(.t 8)]) [],oo_ 34 (.call 38 [(.t 33)]) [4,4],oo_ 35 (.call 104 [(.t 32),(.t 34)]) [3,5,5],oo_ 36 (.ext (.t 35) 0) [6],oo_ 37 (.ext (.t 35) 1) [6],on_ (.store 3 (.t 4) (.t 36))
 [7,6,0,1,2,3,4,5,6,7,8],om_ 5 37 [8,9,0,1,2,3,4,5,6,7,8,9]]) .ret))))))
theorem o_cd : fnOf Tryz.prog o_6a = some (o_6b, [.cell 4 true 3, .t 5], 38, false) := by kernel_rfl

abbrev o_ce : FuncId := 54
def o_cf : C := (.seq (.reg false [oo_ 2 (.box 49 (.t 0)) [],oo_ 3 (.box 49 (.t 1)) [],oo_ 4 (.mv (.d (.int .i64 0))) []]) (.seq (.block 0 (.seq (.reg false [oo_ 6 (.fa 1 (.t 2)) [],oo_ 7 (.load false 1 (.t 6)) [0],om_ 8 7 [1],og_ 9
 (.fa 1 (.t 3)) 8 true [2],og_ 10 (.load false 1 (.t 9)) 8 true [3,2],oo_ 11 (.pick (.t 8) (.t 10) (.d (.bool false))) [2,4],om_ 5 11 [5,2]]) (.cond (.t 5) (.seq (.reg false [oo_ 12 (.fa 0 (.t 3)) [],oo_ 13 (.load true 1
 (.t 12)) [0],oo_ 14 (.fa 0 (.t 2)) [],oo_ 15 (.load true 1 (.t 14)) [2],oo_ 16 (.call 105 [(.t 13),(.t 15)]) [1,3],om_ 4 16 [4,4,0,1,2,3,4]]) .ret) (.seq (.reg false [oo_ 18 (.fa 1 (.t 2)) [],oo_ 19 (.load false 1 (.t
 18)) [0],om_ 17 19 [1]]) (.cond (.t 17) (.seq (.reg false [oo_ 4 (.mv (.d (.int .i64 (-1)))) []]) .ret) (.seq (.reg false [oo_ 21 (.fa 1 (.t 3)) [],oo_ 22 (.load false 1 (.t 21)) [0],om_ 20 22 [1]]) (.cond (.t 20) (.seq
 (.reg false [oo_ 4 (.mv (.d (.int .i64 1))) []]) .ret) .skip))))))) (.seq (.reg false [oo_ 23 (.fa 0 (.t 2)) [],oo_ 24 (.load true 1 (.t 23)) [0],oo_ 25 (.fa 0 (.t 3)) [],oo_ 26 (.load true 1 (.t 25)) [2],oo_ 27 (.call
 105 [(.t 24),(.t 26)]) [1,3],om_ 4 27 [4,4,0,1,2,3,4]]) .ret)))
theorem o_p3 : fnOf Tryz.prog o_ce = some (o_cf, [.t 4], 28, false) := by kernel_rfl

abbrev o_cg : FuncId := 55
def o_ch : C := (.seq (.reg false [oo_ 2 (.box 49 (.t 0)) [],oo_ 3 (.box 49 (.t 1)) [],oo_ 4 (.new 49 [.nilsl,(.bool false)]) []]) (.seq (.reg true [oo_ 5 (.fa 1 (.t 2)) [],oo_ 6 (.load false 1 (.t 5)) [0],oo_ 7 (.fa 1 (.t 3)) [],oo_ 8
 (.load false 1 (.t 7)) [2],oo_ 9 (.beq true (.t 6) (.t 8)) [1,3],oo_ 10 (.fa 0 (.t 2)) [],oo_ 11 (.load true 1 (.t 10)) [5],oo_ 12 (.fa 0 (.t 3)) [],oo_ 13 (.load true 1 (.t 12)) [7],oo_ 14 (.call 107 [(.t 11),(.t 13)])
 [6,8],oo_ 15 (.call 106 [(.t 9),(.t 14)]) [4,9,9],on_ (.store 2 (.t 4) (.t 15)) [10,10,0,1,2,3,4,5,6,7,8,9,10]]) .ret))
theorem o_p4 : fnOf Tryz.prog o_cg = some (o_ch, [.cell 4 true 2], 16, false) := by kernel_rfl

abbrev o_ci : FuncId := 56
def o_cj : C := (.seq (.reg false [oo_ 1 (.box 51 (.t 0)) [],oo_ 2 (.new 49 [.nilsl,(.bool false)]) []]) (.seq (.reg false [oo_ 3 (.load true 3 (.t 1)) [],oo_ 4 (.call 60 [(.t 3)]) [0],oo_ 5 (.call 106 [(.d (.bool false)),(.t 4)])
 [1,1],on_ (.store 2 (.t 2) (.t 5)) [2,2,0,1,2]]) .ret))
theorem o_p5 : fnOf Tryz.prog o_ci = some (o_cj, [.cell 2 true 2], 6, false) := by kernel_rfl

abbrev o_ck : FuncId := 57
def o_cl : C := (.seq (.reg false [oo_ 2 (.new 49 [.nilsl,(.bool false)]) []]) (.seq (.seq (.reg false [om_ 3 0 [],oo_ 4 (.bin .lss (.t 3) (.d (.int .i64 0))) [0]]) (.cond (.t 4) (.seq (.reg false [om_ 5 0 [],oo_ 6 (.conv .u64 (.t 5))
 [0],oo_ 7 (.un .neg (.t 6)) [1],oo_ 8 (.bsl 28 1 1 [(.int .u64 0)] [(0,1,(.t 7))]) [2],oo_ 9 (.call 108 [(.t 8)]) [3],oo_ 10 (.call 106 [(.d (.bool true)),(.t 9)]) [4,4],on_ (.store 2 (.t 2) (.t 10)) [5,5,0,1,2,3,4,5]])
 .ret) .skip)) (.seq (.reg false [om_ 11 0 [],oo_ 12 (.conv .u64 (.t 11)) [0],oo_ 13 (.bsl 28 1 1 [(.int .u64 0)] [(0,1,(.t 12))]) [1],oo_ 14 (.call 108 [(.t 13)]) [2],oo_ 15 (.call 106 [(.d (.bool false)),(.t 14)])
 [3,3],on_ (.store 2 (.t 2) (.t 15)) [4,4,0,1,2,3,4]]) .ret)))
theorem o_p6 : fnOf Tryz.prog o_ck = some (o_cl, [.cell 2 true 2], 16, false) := by kernel_rfl

abbrev o_cm : FuncId := 58
def o_cn : C := (.seq (.reg false [oo_ 1 (.box 51 (.t 0)) [],oo_ 2 (.mv (.d (.bool false))) []]) (.seq (.reg false [oo_ 3 (.fa 2 (.t 1)) [],oo_ 4 (.load true 1 (.t 3)) [0],oo_ 5 (.call 109 [(.t 4)]) [1],om_ 2 5 [2,2,0,1,2]]) .ret))
theorem o_p7 : fnOf Tryz.prog o_cm = some (o_cn, [.t 2], 6, false) := by kernel_rfl

abbrev o_co : FuncId := 59
def o_cp : C := (.seq (.reg false [oo_ 1 (.box 49 (.t 0)) [],⟨some 2,.mv (.d (.str ⟨#[]⟩)),none,[]⟩]) (.seq (.seq (.reg false [oo_ 3 (.fa 1 (.t 1)) [],oo_ 4 (.load false 1 (.t 3)) [0]]) (.cond (.t 4) (.seq (.reg false [oo_ 5 (.fa 0 (.t
 1)) [],oo_ 6 (.load true 1 (.t 5)) [0],oo_ 7 (.call 61 [(.t 6)]) [1],⟨some 8,.bin .add (.d (.str ⟨#[45]⟩)) (.t 7),none,[2]⟩,om_ 2 8 [3,2,0,1,2,3]]) .ret) .skip)) (.seq (.reg false [oo_ 9 (.fa 0 (.t 1)) [],oo_ 10 (.load
 true 1 (.t 9)) [0],oo_ 11 (.call 61 [(.t 10)]) [1],om_ 2 11 [2,2,0,1,2]]) .ret)))
theorem o_p8 : fnOf Tryz.prog o_co = some (o_cp, [.t 2], 12, false) := by kernel_rfl

abbrev o_6c : FuncId := 60
def o_cq : C := (.seq (.reg false [oo_ 1 (.box 51 (.t 0)) [],oo_ 2 (.new 47 [.nilsl]) []]) (.seq (.reg true [oo_ 3 (.fa 2 (.t 1)) [],oo_ 4 (.load true 1 (.t 3)) [0],oo_ 5 (.bsl 28 1 1 [(.int .u64 0)] [(0,1,(.d (.int .u64 1)))]) [],oo_
 6 (.call 108 [(.t 5)]) [2],oo_ 7 (.call 110 [(.t 4),(.t 6)]) [1,3,3],on_ (.store 1 (.t 2) (.t 7)) [4,4,0,1,2,3,4]]) .ret))
theorem o_p9 : fnOf Tryz.prog o_6c = some (o_cq, [.cell 2 true 1], 8, false) := by kernel_rfl

abbrev o_cr : FuncId := 61
def o_cs : C := (.seq (.reg false [oo_ 1 (.box 47 (.t 0)) [],⟨some 2,.mv (.d (.str ⟨#[]⟩)),none,[]⟩]) (.seq (.seq (.reg false [oo_ 8 (.load true 1 (.t 1)) [],oo_ 9 (.call 109 [(.t 8)]) [0]]) (.cond (.t 9) (.seq (.reg false [⟨some 2,.mv
 (.d (.str ⟨#[48]⟩)),none,[]⟩]) .ret) .skip)) (.seq (.reg false [⟨some 3,.mv (.d (.str ⟨#[]⟩)),none,[]⟩]) (.seq (.seq (.reg false [oo_ 10 (.fa 0 (.t 1)) [],oo_ 11 (.load false 1 (.t 10)) [0],om_ 4 11 [1,0,1]]) (.block 0
 (.loop (.seq (.seq (.reg false [om_ 12 4 [],oo_ 13 (.len (.t 12)) [0],oo_ 14 (.bin .gtr (.t 13) (.d (.int .i64 0))) [1]]) (.cond (.t 14) .skip (.exit 0))) (.block 1 (.seq (.reg false [om_ 16 4 [],oo_ 17 (.call 111 [(.t
 16),(.d (.int .u64 1000000000000000000))]) [0],om_ 15 17 [1],oo_ 18 (.ext (.t 15) 0) [2],oo_ 19 (.ext (.t 15) 1) [2],om_ 5 18 [3,1,0,1,2,3],om_ 6 19 [4,5,0,1,2,3,4,5]]) (.seq (.reg false [om_ 20 5 [],oo_ 21 (.call 112
 [(.t 20)]) [0],oo_ 22 (.fld false 0 1 (.t 21)) [1],om_ 4 22 [2,1,0,1,2]]) (.seq (.reg false [om_ 23 6 [],oo_ 24 (.call 113 [(.t 23),(.d (.int .i64 10))]) [0],om_ 7 24 [1,1,0,1]]) (.seq (.seq (.reg false [om_ 25 4 [],oo_
 26 (.len (.t 25)) [0],oo_ 27 (.bin .gtr (.t 26) (.d (.int .i64 0))) [1]]) (.cond (.t 27) (.reg false [om_ 28 7 [],oo_ 29 (.lens (.t 28)) [0],oo_ 30 (.bin .sub (.d (.int .i64 18)) (.t 29)) [1],⟨some 31,.call 114 [(.d
 (.str ⟨#[48]⟩)),(.t 30)],none,[2]⟩,om_ 32 7 [],oo_ 33 (.bin .add (.t 31) (.t 32)) [3,4],om_ 7 33 [5,3,0,1,2,3,4,5]]) .skip)) (.reg false [om_ 34 7 [],om_ 35 3 [],oo_ 36 (.bin .add (.t 34) (.t 35)) [0,1],om_ 3 36
 [2,0,1,2]])))))))))) (.seq (.reg false [om_ 37 3 [],om_ 2 37 [0,0]]) .ret)))))
theorem o_pa : fnOf Tryz.prog o_cr = some (o_cs, [.t 2], 38, false) := by kernel_rfl

abbrev o_ct : FuncId := 62
def o_cu : C := (.seq (.reg false [oo_ 4 (.mv (.d (.int .u64 0))) []]) (.seq (.reg false [om_ 10 0 [],om_ 11 1 [],oo_ 12 (.bsl 28 1 1 [(.int .u64 0)] [(0,1,(.t 11))]) [1],oo_ 13 (.call 65 [(.t 12)]) [2],oo_ 14 (.call 115 [(.t 10),(.t
 13)]) [0,3,3],om_ 9 14 [4],oo_ 15 (.ext (.t 9) 0) [5],oo_ 16 (.ext (.t 9) 1) [5],om_ 5 15 [6,4,0,1,2,3,4,5,6],om_ 6 16 [7,8,0,1,2,3,4,5,6,7,8]]) (.seq (.reg false [oo_ 7 (.mv (.d (.int .u64 0))) []]) (.seq (.seq (.reg
 false [om_ 17 6 [],oo_ 18 (.len (.t 17)) [0],oo_ 19 (.bin .sub (.t 18) (.d (.int .i64 1))) [1],om_ 8 19 [2,0,1,2]]) (.block 0 (.loop (.seq (.seq (.reg false [om_ 20 8 [],oo_ 21 (.bin .geq (.t 20) (.d (.int .i64 0)))
 [0]]) (.cond (.t 21) .skip (.exit 0))) (.seq (.block 1 (.reg false [om_ 24 7 [],oo_ 25 (.bin .mul (.d (.int .u64 10000)) (.t 24)) [0],om_ 26 6 [],om_ 27 8 [],oo_ 28 (.ix 1 (.t 26) (.t 27)) [2,3],oo_ 29 (.load false 1
 (.t 28)) [4],oo_ 30 (.conv .u64 (.t 29)) [5],oo_ 31 (.bin .add (.t 25) (.t 30)) [1,6],om_ 7 31 [7,0,1,2,3,4,5,6,7]])) (.reg false [om_ 22 8 [],oo_ 23 (.bin .sub (.t 22) (.d (.int .i64 1))) [0],om_ 8 23 [1,0,1]]))))))
 (.seq (.reg false [om_ 32 7 [],om_ 4 32 [0,0]]) .ret)))))
theorem o_pb : fnOf Tryz.prog o_ct = some (o_cu, [.t 4], 33, false) := by kernel_rfl

abbrev o_2o : FuncId := 63
def o_cv : C := (.seq (.reg false [oo_ 4 (.mv (.d .nilsl)) []]) (.seq (.reg false [oo_ 5 (.mv (.d .nilsl)) []]) (.seq (.reg false [oo_ 6 (.mv (.d (.int .i64 0))) []]) (.seq (.seq (.reg false [oo_ 7 (.mv (.d (.int .i64 0))) []]) (.block
 0 (.loop (.seq (.seq (.reg false [om_ 8 7 [],om_ 9 0 [],oo_ 10 (.len (.t 9)) [1],oo_ 11 (.bin .lss (.t 8) (.t 10)) [0,2],om_ 12 11 [3],og_ 13 (.mv (.t 7)) 12 false [4],og_ 14 (.mv (.t 1)) 12 false [4],og_ 15 (.len (.t
 14)) 12 false [6,4],og_ 16 (.bin .lss (.t 13) (.t 15)) 12 false [5,7,4],oo_ 17 (.pick (.t 12) (.d (.bool true)) (.t 16)) [4,8],om_ 18 17 [9,4],og_ 19 (.mv (.t 6)) 18 false [10],og_ 20 (.bin .gtr (.t 19) (.d (.int .i64
 0))) 18 false [11,10],oo_ 21 (.pick (.t 18) (.d (.bool true)) (.t 20)) [10,12]]) (.cond (.t 21) .skip (.exit 0))) (.seq (.block 1 (.seq (.seq (.reg false [om_ 24 7 [],om_ 25 0 [],oo_ 26 (.len (.t 25)) [1],oo_ 27 (.bin
 .lss (.t 24) (.t 26)) [0,2]]) (.cond (.t 27) (.reg false [om_ 28 6 [],om_ 29 0 [],om_ 30 7 [],oo_ 31 (.ix 1 (.t 29) (.t 30)) [1,2],oo_ 32 (.load false 1 (.t 31)) [3],oo_ 33 (.bin .add (.t 28) (.t 32)) [0,4],om_ 6 33
 [5,0,1,2,3,4,5]]) .skip)) (.seq (.seq (.reg false [om_ 34 7 [],om_ 35 1 [],oo_ 36 (.len (.t 35)) [1],oo_ 37 (.bin .lss (.t 34) (.t 36)) [0,2]]) (.cond (.t 37) (.reg false [om_ 38 6 [],om_ 39 1 [],om_ 40 7 [],oo_ 41 (.ix
 1 (.t 39) (.t 40)) [1,2],oo_ 42 (.load false 1 (.t 41)) [3],oo_ 43 (.bin .add (.t 38) (.t 42)) [0,4],om_ 6 43 [5,0,1,2,3,4,5]]) .skip)) (.seq (.reg false [om_ 44 5 [],om_ 45 6 [],oo_ 46 (.bin .rem (.t 45) (.d (.int .i64
 10000))) [1],oo_ 47 (.bsl 3 1 1 [(.int .i64 0)] [(0,1,(.t 46))]) [2],oo_ 48 (.app 3 1 8 (.t 44) (.t 47)) [0,3],om_ 5 48 [4,4,0,1,2,3,4]]) (.reg false [om_ 49 6 [],oo_ 50 (.bin .quo (.t 49) (.d (.int .i64 10000)))
 [0],om_ 6 50 [1,0,1]]))))) (.reg false [om_ 22 7 [],oo_ 23 (.bin .add (.t 22) (.d (.int .i64 1))) [0],om_ 7 23 [1,0,1]])))))) (.seq (.reg false [om_ 51 5 [],oo_ 52 (.call 116 [(.t 51)]) [0],om_ 4 52 [1,1,0,1]]) .ret)))))
theorem o_pc : fnOf Tryz.prog o_2o = some (o_cv, [.t 4], 53, false) := by kernel_rfl

abbrev o_1x : FuncId := 64
def o_cw : C := (.seq (.reg false [oo_ 4 (.mv (.d .nilsl)) []]) (.seq (.reg false [om_ 10 0 [],oo_ 11 (.len (.t 10)) [0],om_ 12 1 [],oo_ 13 (.len (.t 12)) [2],oo_ 14 (.bin .add (.t 11) (.t 13)) [1,3],oo_ 15 (.bin .add (.t 14) (.d (.int
 .i64 1))) [4],oo_ 16 (.mksl 3 1 8 [(.int .i64 0)] (.t 15) (.t 15)) [5,5],om_ 5 16 [6,0,1,2,3,4,5,6]]) (.seq (.seq (.reg false [oo_ 6 (.mv (.d (.int .i64 0))) []]) (.block 0 (.loop (.seq (.seq (.reg false [om_ 17 6
 [],om_ 18 0 [],oo_ 19 (.len (.t 18)) [1],oo_ 20 (.bin .lss (.t 17) (.t 19)) [0,2]]) (.cond (.t 20) .skip (.exit 0))) (.seq (.block 1 (.seq (.reg false [oo_ 7 (.mv (.d (.int .i64 0))) []]) (.seq (.reg false [oo_ 8 (.mv
 (.d (.int .i64 0))) []]) (.block 2 (.loop (.seq (.seq (.reg false [om_ 23 8 [],om_ 24 1 [],oo_ 25 (.len (.t 24)) [1],oo_ 26 (.bin .lss (.t 23) (.t 25)) [0,2],om_ 27 26 [3],og_ 28 (.mv (.t 7)) 27 false [4],og_ 29 (.bin
 .gtr (.t 28) (.d (.int .i64 0))) 27 false [5,4],oo_ 30 (.pick (.t 27) (.d (.bool true)) (.t 29)) [4,6]]) (.cond (.t 30) .skip (.exit 2))) (.seq (.block 3 (.seq (.reg false [om_ 33 5 [],om_ 34 6 [],om_ 35 8 [],oo_ 36
 (.bin .add (.t 34) (.t 35)) [1,2],oo_ 37 (.ix 1 (.t 33) (.t 36)) [0,3],oo_ 38 (.load false 1 (.t 37)) [4],om_ 39 7 [],oo_ 40 (.bin .add (.t 38) (.t 39)) [5,6],om_ 9 40 [7,0,1,2,3,4,5,6,7]]) (.seq (.seq (.reg false [om_
 41 8 [],om_ 42 1 [],oo_ 43 (.len (.t 42)) [1],oo_ 44 (.bin .lss (.t 41) (.t 43)) [0,2]]) (.cond (.t 44) (.reg true [om_ 45 9 [],om_ 46 0 [],om_ 47 6 [],oo_ 48 (.ix 1 (.t 46) (.t 47)) [1,2],oo_ 49 (.load false 1 (.t 48))
 [3],om_ 50 1 [],om_ 51 8 [],oo_ 52 (.ix 1 (.t 50) (.t 51)) [5,6],oo_ 53 (.load false 1 (.t 52)) [7],oo_ 54 (.bin .mul (.t 49) (.t 53)) [4,8],oo_ 55 (.bin .add (.t 45) (.t 54)) [0,9],om_ 9 55
 [10,0,1,2,3,4,5,6,7,8,9,10]]) .skip)) (.seq (.reg false [om_ 56 5 [],om_ 57 6 [],om_ 58 8 [],oo_ 59 (.bin .add (.t 57) (.t 58)) [1,2],om_ 60 9 [],oo_ 61 (.bin .rem (.t 60) (.d (.int .i64 10000))) [4],oo_ 62 (.ix 1 (.t
 56) (.t 59)) [0,3,0,1,2,3,4,5],on_ (.store 1 (.t 62) (.t 61)) [6,5,0,1,2,3,4,5]]) (.reg false [om_ 63 9 [],oo_ 64 (.bin .quo (.t 63) (.d (.int .i64 10000))) [0],om_ 7 64 [1,0,1]]))))) (.reg false [om_ 31 8 [],oo_ 32
 (.bin .add (.t 31) (.d (.int .i64 1))) [0],om_ 8 32 [1,0,1]])))))))) (.reg false [om_ 21 6 [],oo_ 22 (.bin .add (.t 21) (.d (.int .i64 1))) [0],om_ 6 22 [1,0,1]])))))) (.seq (.reg false [om_ 65 5 [],oo_ 66 (.call 116
 [(.t 65)]) [0],om_ 4 66 [1,1,0,1]]) .ret))))
theorem o_pd : fnOf Tryz.prog o_1x = some (o_cw, [.t 4], 67, false) := by kernel_rfl

abbrev o_cx : FuncId := 65
def o_cy : C := (.seq (.reg false [oo_ 2 (.mv (.d .nilsl)) []]) (.seq (.reg false [oo_ 3 (.mv (.d .nilsl)) []]) (.seq (.reg false [oo_ 8 (.call 117 [(.d (.int .i64 4294967296))]) [],oo_ 9 (.call 117 [(.d (.int .i64 4294967296))])
 [0],oo_ 10 (.call 64 [(.t 8),(.t 9)]) [0,1,1],om_ 4 10 [2,2,0,1,2]]) (.seq (.seq (.reg false [om_ 11 0 [],oo_ 12 (.len (.t 11)) [0],oo_ 13 (.bin .sub (.t 12) (.d (.int .i64 1))) [1],om_ 5 13 [2,0,1,2]]) (.block 0 (.loop
 (.seq (.seq (.reg false [om_ 14 5 [],oo_ 15 (.bin .geq (.t 14) (.d (.int .i64 0))) [0]]) (.cond (.t 15) .skip (.exit 0))) (.seq (.block 1 (.seq (.reg false [om_ 18 0 [],om_ 19 5 [],oo_ 20 (.ix 1 (.t 18) (.t 19))
 [0,1],oo_ 21 (.load false 1 (.t 20)) [2],oo_ 22 (.bin .quo (.t 21) (.d (.int .u64 4294967296))) [3],oo_ 23 (.conv .i64 (.t 22)) [4],oo_ 24 (.call 117 [(.t 23)]) [5],om_ 6 24 [6,6,0,1,2,3,4,5,6]]) (.seq (.reg false [om_
 25 0 [],om_ 26 5 [],oo_ 27 (.ix 1 (.t 25) (.t 26)) [0,1],oo_ 28 (.load false 1 (.t 27)) [2],oo_ 29 (.bin .rem (.t 28) (.d (.int .u64 4294967296))) [3],oo_ 30 (.conv .i64 (.t 29)) [4],oo_ 31 (.call 117 [(.t 30)]) [5],om_
 7 31 [6,6,0,1,2,3,4,5,6]]) (.reg false [om_ 32 3 [],om_ 33 4 [],oo_ 34 (.call 64 [(.t 32),(.t 33)]) [0,1],om_ 35 6 [],oo_ 36 (.call 117 [(.d (.int .i64 4294967296))]) [2],oo_ 37 (.call 64 [(.t 35),(.t 36)]) [3,4,4],om_
 38 7 [],oo_ 39 (.call 63 [(.t 37),(.t 38)]) [5,6,5],oo_ 40 (.call 63 [(.t 34),(.t 39)]) [2,7,7],om_ 3 40 [8,8,0,1,2,3,4,5,6,7,8]])))) (.reg false [om_ 16 5 [],oo_ 17 (.bin .sub (.t 16) (.d (.int .i64 1))) [0],om_ 5 17
 [1,0,1]])))))) (.seq (.reg false [om_ 41 3 [],om_ 2 41 [0,0]]) .ret)))))
theorem o_pe : fnOf Tryz.prog o_cx = some (o_cy, [.t 2], 42, false) := by kernel_rfl

abbrev o_cz : FuncId := 66
def o_d0 : C := (.seq (.reg false [oo_ 2 (.box 30 (.t 0)) [],oo_ 4 (.mv (.d (.int .i64 0))) []]) (.seq (.seq (.reg false [oo_ 8 (.load true 3 (.t 2)) [],oo_ 9 (.call 85 [(.t 8)]) [0],om_ 5 9 [1,1,0,1]]) (.seq (.reg false [om_ 10 5
 [],oo_ 11 (.bin .neq (.t 10) (.d (.int .i64 0))) [0]]) (.cond (.t 11) (.seq (.reg false [om_ 12 5 [],om_ 4 12 [0,0]]) .ret) .skip))) (.seq (.seq (.reg false [om_ 13 1 [],oo_ 14 (.len (.t 13)) [0],oo_ 15 (.mv (.d (.int
 .i64 0))) []]) (.block 0 (.loop (.seq (.reg false [oo_ 16 (.bin .lss (.t 15) (.t 14)) []]) (.seq (.cond (.t 16) .skip (.exit 0)) (.seq (.block 1 (.seq (.reg false [oo_ 17 (.ix 3 (.t 13) (.t 15)) [],oo_ 18 (.load true 3
 (.t 17)) [0],oo_ 7 (.new 64 [(.int .i64 0),(.int .i64 0),(.bool false)]) [],on_ (.store 3 (.t 7) (.t 18)) [2,1,0,1,2]]) (.seq (.reg false [oo_ 19 (.load true 3 (.t 2)) [],oo_ 20 (.load true 3 (.t 7)) [],oo_ 21 (.call
 118 [(.t 19),(.t 20)]) [0,1],oo_ 22 (.un .not (.t 21)) [2]]) (.cond (.t 22) (.seq (.reg false [oo_ 4 (.mv (.d (.int .i64 2))) []]) .ret) .skip)))) (.reg false [oo_ 23 (.bin .add (.t 15) (.d (.int .i64 1))) [],om_ 15 23
 [0]]))))))) (.seq (.reg false [oo_ 4 (.mv (.d (.int .i64 0))) []]) .ret))))
theorem o_pf : fnOf Tryz.prog o_cz = some (o_d0, [.t 4], 24, false) := by kernel_rfl

abbrev o_d1 : FuncId := 67
def o_d2 : C := (.seq (.reg false [oo_ 1 (.box 30 (.t 0)) [],oo_ 2 (.new 135 [(.int .i64 0),(.int .i64 0)]) []]) (.seq (.reg false [oo_ 3 (.fa 1 (.t 1)) [],oo_ 4 (.load false 1 (.t 3)) [0],oo_ 5 (.fa 2 (.t 1)) [],oo_ 6 (.load false 1
 (.t 5)) [2],oo_ 7 (.build [(.int .i64 0),(.int .i64 0)] [(0,1,(.t 4)),(1,1,(.t 6))]) [1,3],on_ (.store 2 (.t 2) (.t 7)) [4,0,1,2,3,4]]) .ret))
theorem o_pg : fnOf Tryz.prog o_d1 = some (o_d2, [.cell 2 true 2], 8, false) := by kernel_rfl

abbrev o_d3 : FuncId := 68
def o_d4 : C := (.seq (.reg false [oo_ 2 (.box 135 (.t 0)) [],oo_ 3 (.box 139 (.t 1)) [],oo_ 4 (.new 47 [.nilsl]) [],oo_ 5 (.mv (.d (.int .i64 0))) []]) (.seq (.seq (.reg false [oo_ 7 (.load true 2 (.t 2)) [],oo_ 8 (.load true 3 (.t
 3)) [],oo_ 9 (.bsl 139 3 1 [(.int .i64 0),(.int .i64 0),(.bool false)] [(0,3,(.t 8))]) [1],oo_ 10 (.call 119 [(.t 7),(.t 9)]) [0,2],om_ 6 10 [3,3,0,1,2,3]]) (.seq (.reg false [om_ 11 6 [],oo_ 12 (.bin .neq (.t 11) (.d
 (.int .i64 0))) [0]]) (.cond (.t 12) (.seq (.reg false [oo_ 13 (.build [.nilsl] []) [],om_ 14 6 [],on_ (.store 1 (.t 4) (.t 13)) [0,0],om_ 5 14 [1,2,0,1,2]]) .ret) .skip))) (.seq (.reg true [oo_ 15 (.fa 0 (.t 3)) [],oo_
 16 (.load false 1 (.t 15)) [0],oo_ 17 (.conv .u64 (.t 16)) [1],oo_ 18 (.bsl 28 1 1 [(.int .u64 0)] [(0,1,(.t 17))]) [2],oo_ 19 (.call 108 [(.t 18)]) [3],oo_ 20 (.fa 1 (.t 3)) [],oo_ 21 (.load false 1 (.t 20)) [5],oo_ 22
 (.call 120 [(.t 19),(.t 21)]) [4,6,4],oo_ 23 (.ext (.t 22) 0) [7],oo_ 24 (.ext (.t 22) 1) [7],on_ (.store 1 (.t 4) (.t 23)) [8,7,0,1,2,3,4,5,6,7,8,9],om_ 5 24 [9,10,0,1,2,3,4,5,6,7,8,9,10]]) .ret)))
theorem o_ph : fnOf Tryz.prog o_d3 = some (o_d4, [.cell 4 true 1, .t 5], 25, false) := by kernel_rfl

abbrev o_d5 : FuncId := 69
def o_d6 : C := (.seq (.reg false [oo_ 1 (.box 64 (.t 0)) [],oo_ 2 (.new 139 [(.int .i64 0),(.int .i64 0),(.bool false)]) []]) (.seq (.reg false [oo_ 3 (.fa 0 (.t 1)) [],oo_ 4 (.load false 1 (.t 3)) [0],oo_ 5 (.fa 1 (.t 1)) [],oo_ 6
 (.load false 1 (.t 5)) [2],oo_ 7 (.fa 2 (.t 1)) [],oo_ 8 (.load false 1 (.t 7)) [4],oo_ 9 (.build [(.int .i64 0),(.int .i64 0),(.bool false)] [(0,1,(.t 4)),(1,1,(.t 6)),(2,1,(.t 8))]) [1,3,5],on_ (.store 3 (.t 2) (.t
 9)) [6,0,1,2,3,4,5,6]]) .ret))
theorem o_pi : fnOf Tryz.prog o_d5 = some (o_d6, [.cell 2 true 3], 10, false) := by kernel_rfl

abbrev o_d7 : FuncId := 70
def o_d8 : C := (.seq (.reg false [oo_ 1 (.box 47 (.t 0)) [],oo_ 2 (.new 51 [.nilsl,(.bool false),.nilsl]) []]) (.seq (.reg false [oo_ 3 (.load true 1 (.t 1)) [],oo_ 4 (.call 106 [(.d (.bool false)),(.t 3)]) [0],oo_ 5 (.build
 [.nilsl,(.bool false),.nilsl] [(0,2,(.t 4))]) [1],on_ (.store 3 (.t 2) (.t 5)) [2,1,0,1,2]]) .ret))
theorem o_pj : fnOf Tryz.prog o_d7 = some (o_d8, [.cell 2 true 3], 6, false) := by kernel_rfl

abbrev o_d9 : FuncId := 71
def o_da : C := (.seq (.reg false [oo_ 1 (.box 30 (.t 0)) [],oo_ 2 (.new 143 [(.int .i64 0),(.int .i64 0),(.int .i64 0)]) []]) (.seq (.reg false [oo_ 3 (.fa 0 (.t 1)) [],oo_ 4 (.load false 1 (.t 3)) [0],oo_ 5 (.fa 1 (.t 1)) [],oo_ 6
 (.load false 1 (.t 5)) [2],oo_ 7 (.fa 2 (.t 1)) [],oo_ 8 (.load false 1 (.t 7)) [4],oo_ 9 (.build [(.int .i64 0),(.int .i64 0),(.int .i64 0)] [(0,1,(.t 4)),(1,1,(.t 6)),(2,1,(.t 8))]) [1,3,5],on_ (.store 3 (.t 2) (.t
 9)) [6,0,1,2,3,4,5,6]]) .ret))
theorem o_pk : fnOf Tryz.prog o_d9 = some (o_da, [.cell 2 true 3], 10, false) := by kernel_rfl

abbrev o_db : FuncId := 72
def o_dc : C := (.seq (.reg false [oo_ 2 (.box 143 (.t 0)) [],oo_ 4 (.new 51 [.nilsl,(.bool false),.nilsl]) [],oo_ 5 (.mv (.d (.int .i64 0))) []]) (.seq (.seq (.reg false [oo_ 7 (.load true 3 (.t 2)) [],om_ 8 1 [],oo_ 9 (.bsl 3 1 1
 [(.int .i64 0)] [(0,1,(.t 8))]) [1],oo_ 10 (.call 121 [(.t 7),(.t 9)]) [0,2],om_ 6 10 [3,3,0,1,2,3]]) (.seq (.reg false [om_ 11 6 [],oo_ 12 (.bin .neq (.t 11) (.d (.int .i64 0))) [0]]) (.cond (.t 12) (.seq (.reg false
 [oo_ 13 (.build [.nilsl,(.bool false),.nilsl] []) [],om_ 14 6 [],on_ (.store 3 (.t 4) (.t 13)) [0,0],om_ 5 14 [1,2,0,1,2]]) .ret) .skip))) (.seq (.reg false [oo_ 15 (.load true 3 (.t 2)) [],oo_ 16 (.call 122 [(.t 15)])
 [0],om_ 17 1 [],oo_ 18 (.inv (.t 16) "tallymark/chain.value" [(.t 17)]) [1,2,1],oo_ 19 (.ext (.t 18) 0) [3],oo_ 20 (.ext (.t 18) 1) [3],on_ (.store 3 (.t 4) (.t 19)) [4,3,0,1,2,3,4,5],om_ 5 20 [5,6,0,1,2,3,4,5,6]])
 .ret)))
theorem o_pl : fnOf Tryz.prog o_db = some (o_dc, [.cell 4 true 3, .t 5], 21, false) := by kernel_rfl

abbrev o_dd : FuncId := 73
def o_de : C := (.seq (.reg false [oo_ 2 (.mv (.d .nilsl)) []]) (.seq (.seq (.reg false [om_ 3 0 [],oo_ 4 (.snl false (.t 3)) [0]]) (.cond (.t 4) (.seq (.reg false [oo_ 2 (.mv (.d .nilsl)) []]) .ret) .skip)) (.seq (.reg false [oo_ 5
 (.bsl0) [],om_ 6 0 [],oo_ 7 (.app 111 3 24 (.t 5) (.t 6)) [0,1],om_ 2 7 [2,2,0,1,2]]) .ret)))
theorem o_pm : fnOf Tryz.prog o_dd = some (o_de, [.t 2], 8, false) := by kernel_rfl

abbrev o_df : FuncId := 74
def o_dg : C := (.seq (.reg false [oo_ 2 (.mv (.d .nilp)) []]) (.seq (.reg true [om_ 3 0 [],oo_ 4 (.chk (.t 3)) [0],oo_ 5 (.fa 0 (.t 4)) [1],oo_ 6 (.load false 1 (.t 5)) [2],oo_ 7 (.call 123 [(.t 6)]) [3],om_ 8 0 [],oo_ 9 (.chk (.t 8))
 [5],oo_ 10 (.fa 1 (.t 9)) [6],oo_ 11 (.load true 3 (.t 10)) [7],oo_ 12 (.build [.nilp,(.int .i64 0),(.int .i64 0),(.int .i64 0)] [(0,1,(.t 7)),(1,3,(.t 11))]) [4,8],oo_ 13 (.box 166 (.t 12)) [9],om_ 2 13
 [10,4,0,1,2,3,4,5,6,7,8,9,10]]) .ret))
theorem o_pn : fnOf Tryz.prog o_df = some (o_dg, [.t 2], 14, false) := by kernel_rfl

abbrev o_dh : FuncId := 79
def o_di : C := (.seq (.reg false [oo_ 4 (.box 135 (.t 0)) [],oo_ 6 (.box 139 (.t 2)) [],oo_ 8 (.new 139 [(.int .i64 0),(.int .i64 0),(.bool false)]) [],oo_ 9 (.mv (.d (.int .i64 0))) []]) (.seq (.seq (.reg false [oo_ 14 (.load true 2
 (.t 4)) [],oo_ 15 (.load true 3 (.t 6)) [],oo_ 16 (.bsl 139 3 1 [(.int .i64 0),(.int .i64 0),(.bool false)] [(0,3,(.t 15))]) [1],oo_ 17 (.call 119 [(.t 14),(.t 16)]) [0,2],om_ 10 17 [3,3,0,1,2,3]]) (.seq (.reg false
 [om_ 18 10 [],oo_ 19 (.bin .neq (.t 18) (.d (.int .i64 0))) [0]]) (.cond (.t 19) (.seq (.reg false [oo_ 20 (.load true 3 (.t 6)) [],om_ 21 10 [],on_ (.store 3 (.t 8) (.t 20)) [0,0],om_ 9 21 [1,2,0,1,2]]) .ret) .skip)))
 (.seq (.seq (.reg false [om_ 22 3 [],oo_ 23 (.bin .gtr (.t 22) (.d (.int .i64 1048576))) [0]]) (.cond (.t 23) (.seq (.reg false [oo_ 24 (.load true 3 (.t 6)) [],on_ (.store 3 (.t 8) (.t 24)) [0,0],oo_ 9 (.mv (.d (.int
 .i64 2))) [1,0,1]]) .ret) .skip)) (.seq (.reg false [oo_ 25 (.load true 3 (.t 6)) [],oo_ 11 (.new 139 [(.int .i64 0),(.int .i64 0),(.bool false)]) [],on_ (.store 3 (.t 11) (.t 25)) [1,0,0,1]]) (.seq (.seq (.reg false
 [om_ 26 3 [],oo_ 27 (.mm true [(.d (.int .i64 0)),(.t 26)]) [0],oo_ 28 (.mv (.d (.int .i64 0))) []]) (.block 0 (.loop (.seq (.reg false [oo_ 29 (.bin .lss (.t 28) (.t 27)) []]) (.seq (.cond (.t 29) .skip (.exit 0))
 (.seq (.block 1 (.seq (.reg false [oo_ 31 (.load true 2 (.t 4)) [],om_ 32 1 [],oo_ 33 (.load true 3 (.t 11)) [],oo_ 34 (.call 126 [(.t 31),(.t 32),(.t 33)]) [0,1,2],om_ 30 34 [3],oo_ 35 (.ext (.t 30) 0) [4],oo_ 36 (.ext
 (.t 30) 1) [4],oo_ 12 (.new 139 [(.int .i64 0),(.int .i64 0),(.bool false)]) [],on_ (.store 3 (.t 12) (.t 35)) [7,5,3,0,1,2,3,4,5,7],om_ 13 36 [6,8,0,1,2,3,4,5,6,7,8]]) (.seq (.seq (.reg false [om_ 37 13 [],oo_ 38 (.bin
 .neq (.t 37) (.d (.int .i64 0))) [0]]) (.cond (.t 38) (.seq (.reg false [oo_ 39 (.load true 3 (.t 6)) [],om_ 40 13 [],on_ (.store 3 (.t 8) (.t 39)) [0,0],om_ 9 40 [1,2,0,1,2]]) .ret) .skip)) (.reg false [oo_ 41 (.load
 true 3 (.t 12)) [],on_ (.store 3 (.t 11) (.t 41)) [0,0]])))) (.reg false [oo_ 42 (.bin .add (.t 28) (.d (.int .i64 1))) [],om_ 28 42 [0]]))))))) (.seq (.reg false [oo_ 43 (.load true 3 (.t 11)) [],on_ (.store 3 (.t 8)
 (.t 43)) [0,0],oo_ 9 (.mv (.d (.int .i64 0))) [1,0,1]]) .ret))))))
theorem o_po : fnOf Tryz.prog o_dh = some (o_di, [.cell 8 true 3, .t 9], 44, false) := by kernel_rfl

abbrev o_dj : FuncId := 80
def o_dk : C := (.seq (.reg false [oo_ 1 (.box 139 (.t 0)) [],oo_ 2 (.new 64 [(.int .i64 0),(.int .i64 0),(.bool false)]) []]) (.seq (.reg false [oo_ 3 (.fa 0 (.t 1)) [],oo_ 4 (.load false 1 (.t 3)) [0],oo_ 5 (.fa 1 (.t 1)) [],oo_ 6
 (.load false 1 (.t 5)) [2],oo_ 7 (.fa 2 (.t 1)) [],oo_ 8 (.load false 1 (.t 7)) [4],oo_ 9 (.build [(.int .i64 0),(.int .i64 0),(.bool false)] [(0,1,(.t 4)),(1,1,(.t 6)),(2,1,(.t 8))]) [1,3,5],on_ (.store 3 (.t 2) (.t
 9)) [6,0,1,2,3,4,5,6]]) .ret))
theorem o_pp : fnOf Tryz.prog o_dj = some (o_dk, [.cell 2 true 3], 10, false) := by kernel_rfl

abbrev o_6d : FuncId := 81
def o_dl : C := (.seq (.reg false [oo_ 4 (.box 143 (.t 0)) [],oo_ 5 (.box 40 (.t 1)) [],oo_ 6 (.box 155 (.t 2)) [],oo_ 8 (.new 155 [(.int .i64 0),(.bool false)]) [],oo_ 9 (.mv (.d (.int .i64 0))) []]) (.seq (.seq (.reg false [oo_ 14
 (.load true 3 (.t 4)) [],oo_ 15 (.fa 0 (.t 6)) [],oo_ 16 (.load false 1 (.t 15)) [1],oo_ 17 (.bsl 3 1 1 [(.int .i64 0)] [(0,1,(.t 16))]) [2],oo_ 18 (.call 121 [(.t 14),(.t 17)]) [0,3],om_ 10 18 [4,4,0,1,2,3,4]]) (.seq
 (.reg false [om_ 19 10 [],oo_ 20 (.bin .neq (.t 19) (.d (.int .i64 0))) [0]]) (.cond (.t 20) (.seq (.reg false [oo_ 21 (.load true 2 (.t 6)) [],om_ 22 10 [],on_ (.store 2 (.t 8) (.t 21)) [0,0],om_ 9 22 [1,2,0,1,2]])
 .ret) .skip))) (.seq (.seq (.reg false [om_ 23 3 [],oo_ 24 (.bin .gtr (.t 23) (.d (.int .i64 1048576))) [0]]) (.cond (.t 24) (.seq (.reg false [oo_ 25 (.load true 2 (.t 6)) [],on_ (.store 2 (.t 8) (.t 25)) [0,0],oo_ 9
 (.mv (.d (.int .i64 2))) [1,0,1]]) .ret) .skip)) (.seq (.reg false [oo_ 26 (.load true 3 (.t 4)) [],oo_ 27 (.call 122 [(.t 26)]) [0],oo_ 11 (.new 203 [.nilifc]) [],on_ (.store 1 (.t 11) (.t 27)) [2,1,1,0,1,2]]) (.seq
 (.reg false [oo_ 28 (.load true 2 (.t 6)) [],oo_ 12 (.new 155 [(.int .i64 0),(.bool false)]) [],on_ (.store 2 (.t 12) (.t 28)) [1,0,0,1],oo_ 13 (.mv (.d (.int .i64 0))) [2,0,1,2]]) (.seq (.seq (.reg false [om_ 29 3
 [],oo_ 30 (.mm true [(.d (.int .i64 0)),(.t 29)]) [0],oo_ 31 (.mv (.d (.int .i64 0))) []]) (.block 0 (.loop (.seq (.reg false [oo_ 32 (.bin .lss (.t 31) (.t 30)) []]) (.seq (.cond (.t 32) .skip (.exit 0)) (.seq (.block
 1 (.seq (.reg false [oo_ 34 (.load true 3 (.t 4)) [],oo_ 35 (.load true 2 (.t 12)) [],oo_ 36 (.mkf (.func 128) [(.t 11),(.t 5)]) [],oo_ 37 (.call 127 [(.t 34),(.t 35),(.t 36)]) [0,1,2],om_ 33 37 [3],oo_ 38 (.ext (.t 33)
 0) [4],oo_ 39 (.ext (.t 33) 1) [4],on_ (.store 2 (.t 12) (.t 38)) [5,3,0,1,2,3,4,5],om_ 13 39 [6,7,0,1,2,3,4,5,6,7]]) (.seq (.seq (.reg false [om_ 40 13 [],oo_ 41 (.bin .neq (.t 40) (.d (.int .i64 0))) [0]]) (.cond (.t
 41) (.seq (.reg false [oo_ 42 (.load true 2 (.t 6)) [],om_ 43 13 [],on_ (.store 2 (.t 8) (.t 42)) [0,0],om_ 9 43 [1,2,0,1,2]]) .ret) .skip)) (.seq (.reg true [oo_ 44 (.fa 1 (.t 12)) [],oo_ 45 (.load false 1 (.t 44))
 [0],om_ 46 45 [1],og_ 47 (.fa 0 (.t 12)) 46 true [2],og_ 48 (.load false 1 (.t 47)) 46 true [3,2],og_ 49 (.load true 3 (.t 4)) 46 true [2],og_ 50 (.call 129 [(.t 49)]) 46 true [5,2,2],og_ 51 (.bin .eql (.t 48) (.t 50))
 46 true [4,6,2],oo_ 52 (.pick (.t 46) (.t 51) (.d (.bool false))) [2,7]]) (.cond (.t 52) (.exit 0) .skip))))) (.reg false [oo_ 53 (.bin .add (.t 31) (.d (.int .i64 1))) [],om_ 31 53 [0]]))))))) (.seq (.reg false [oo_ 54
 (.load true 2 (.t 12)) [],on_ (.store 2 (.t 8) (.t 54)) [0,0],oo_ 9 (.mv (.d (.int .i64 0))) [1,0,1]]) .ret)))))))
theorem o_pq : fnOf Tryz.prog o_6d = some (o_dl, [.cell 8 true 2, .t 9], 55, false) := by kernel_rfl

abbrev o_dm : FuncId := 82
def o_dn : C := (.seq (.reg false [oo_ 1 (.box 64 (.t 0)) [],oo_ 2 (.new 155 [(.int .i64 0),(.bool false)]) []]) (.seq (.reg false [oo_ 3 (.fa 0 (.t 1)) [],oo_ 4 (.load false 1 (.t 3)) [0],oo_ 5 (.fa 2 (.t 1)) [],oo_ 6 (.load false 1
 (.t 5)) [2],oo_ 7 (.build [(.int .i64 0),(.bool false)] [(0,1,(.t 4)),(1,1,(.t 6))]) [1,3],on_ (.store 2 (.t 2) (.t 7)) [4,0,1,2,3,4]]) .ret))
theorem o_pr : fnOf Tryz.prog o_dm = some (o_dn, [.cell 2 true 2], 8, false) := by kernel_rfl

abbrev o_do : FuncId := 83
def o_dp : C := (.seq (.reg false [oo_ 1 (.box 155 (.t 0)) [],oo_ 2 (.new 64 [(.int .i64 0),(.int .i64 0),(.bool false)]) []]) (.seq (.reg false [oo_ 3 (.fa 0 (.t 1)) [],oo_ 4 (.load false 1 (.t 3)) [0],oo_ 5 (.fa 1 (.t 1)) [],oo_ 6
 (.load false 1 (.t 5)) [2],oo_ 7 (.build [(.int .i64 0),(.int .i64 0),(.bool false)] [(0,1,(.t 4)),(2,1,(.t 6))]) [1,3],on_ (.store 3 (.t 2) (.t 7)) [4,0,1,2,3,4]]) .ret))
theorem o_ps : fnOf Tryz.prog o_do = some (o_dp, [.cell 2 true 3], 8, false) := by kernel_rfl

abbrev o_dq : FuncId := 85
def o_6e : C := (.seq (.reg false [oo_ 1 (.box 30 (.t 0)) [],oo_ 2 (.mv (.d (.int .i64 0))) []]) (.seq (.seq (.reg false [oo_ 3 (.fa 0 (.t 1)) [],oo_ 4 (.load false 1 (.t 3)) [0],oo_ 5 (.bin .eql (.t 4) (.d (.int .i64 4))) [1]]) (.cond
 (.t 5) (.seq (.reg false [oo_ 6 (.load true 3 (.t 1)) [],oo_ 7 (.call 67 [(.t 6)]) [0],oo_ 8 (.call 132 [(.t 7)]) [1,1],om_ 2 8 [2,2,0,1,2]]) .ret) .skip)) (.seq (.reg false [oo_ 9 (.load true 3 (.t 1)) [],oo_ 10 (.call
 71 [(.t 9)]) [0],oo_ 11 (.call 133 [(.t 10)]) [1,1],om_ 2 11 [2,2,0,1,2]]) .ret)))
theorem o_pt : fnOf Tryz.prog o_dq = some (o_6e, [.t 2], 12, false) := by kernel_rfl

abbrev o_6f : FuncId := 87
def o_3o : C := (.seq (.reg false [oo_ 6 (.mv (.d (.int .i64 0))) []]) (.seq (.seq (.reg false [om_ 8 2 [],oo_ 9 (.call 134 [(.t 8)]) [0],oo_ 10 (.un .not (.t 9)) [1],om_ 11 10 [2,1],og_ 12 (.mv (.t 1)) 11 false [3],og_ 13 (.mv (.t 2))
 11 false [3],og_ 14 (.call 135 [(.t 12),(.t 13)]) 11 false [4,5,3,3],og_ 15 (.un .not (.t 14)) 11 false [6,3],oo_ 16 (.pick (.t 11) (.d (.bool true)) (.t 15)) [3,7]]) (.cond (.t 16) (.seq (.reg false [oo_ 6 (.mv (.d
 (.int .i64 2))) []]) .ret) .skip)) (.seq (.seq (.reg false [om_ 17 2 [],oo_ 18 (.mv (.d (.int .i64 0))) []]) (.block 0 (.loop (.seq (.reg false [oo_ 19 (.bin .lss (.t 18) (.t 17)) []]) (.seq (.cond (.t 19) .skip (.exit
 0)) (.seq (.block 1 (.seq (.reg false [om_ 20 18 [],om_ 7 20 [0,0]]) (.reg false [om_ 21 0 [],om_ 22 1 [],om_ 23 2 [],oo_ 24 (.bin .sub (.t 23) (.d (.int .i64 1))) [2],om_ 25 7 [],oo_ 26 (.bin .sub (.t 24) (.t 25))
 [3,4],oo_ 27 (.bin .shr (.t 22) (.t 26)) [1,5],oo_ 28 (.bin .and (.t 27) (.d (.int .u64 1))) [6],oo_ 29 (.bin .eql (.t 28) (.d (.int .u64 1))) [7],oo_ 30 (.call 136 [(.t 21),(.t 29)]) [0,8]]))) (.reg false [oo_ 31 (.bin
 .add (.t 18) (.d (.int .i64 1))) [],om_ 18 31 [0]]))))))) (.seq (.reg false [oo_ 6 (.mv (.d (.int .i64 0))) []]) .ret))))
theorem o_6g : fnOf Tryz.prog o_6f = some (o_3o, [.t 6], 32, false) := by kernel_rfl

abbrev o_dr : FuncId := 90
def o_ds : C := (.seq (.reg false [oo_ 4 (.mv (.d (.int .u64 0))) [],oo_ 5 (.mv (.d (.int .i64 0))) [0]]) (.seq (.block 0 (.seq (.reg false [om_ 8 1 [],oo_ 9 (.call 134 [(.t 8)]) [0],oo_ 10 (.un .not (.t 9)) [1],om_ 7 10 [2,1]]) (.cond
 (.t 7) (.seq (.reg false [oo_ 4 (.mv (.d (.int .u64 0))) [],oo_ 5 (.mv (.d (.int .i64 2))) [0,0]]) .ret) (.seq (.reg false [om_ 12 1 [],om_ 13 0 [],oo_ 14 (.call 42 [(.t 13)]) [1],oo_ 15 (.bin .gtr (.t 12) (.t 14))
 [0,2],om_ 11 15 [3,2]]) (.cond (.t 11) (.seq (.reg false [oo_ 4 (.mv (.d (.int .u64 0))) [],oo_ 5 (.mv (.d (.int .i64 5))) [0,0]]) .ret) .skip))))) (.seq (.reg false [oo_ 6 (.mv (.d (.int .u64 0))) []]) (.seq (.seq
 (.reg false [om_ 16 1 [],oo_ 17 (.mv (.d (.int .i64 0))) []]) (.block 1 (.loop (.seq (.reg false [oo_ 18 (.bin .lss (.t 17) (.t 16)) []]) (.seq (.cond (.t 18) .skip (.exit 1)) (.seq (.block 2 (.reg false [om_ 19 6
 [],oo_ 20 (.bin .shl (.t 19) (.d (.int .u64 1))) [0],om_ 21 0 [],oo_ 22 (.call 137 [(.t 21)]) [2],oo_ 23 (.bin .or (.t 20) (.t 22)) [1,3],om_ 6 23 [4,3,0,1,2,3,4]])) (.reg false [oo_ 24 (.bin .add (.t 17) (.d (.int .i64
 1))) [],om_ 17 24 [0]]))))))) (.seq (.reg false [om_ 25 6 [],om_ 4 25 [0,0],oo_ 5 (.mv (.d (.int .i64 0))) [1,0,1]]) .ret)))))
theorem o_pu : fnOf Tryz.prog o_dr = some (o_ds, [.t 4, .t 5], 26, false) := by kernel_rfl

abbrev o_dt : FuncId := 92
def o_du : C := (.seq (.reg false [oo_ 2 (.mv (.d .nilsl)) []]) (.seq (.seq (.reg false [om_ 3 0 [],oo_ 4 (.snl false (.t 3)) [0]]) (.cond (.t 4) (.seq (.reg false [oo_ 2 (.mv (.d .nilsl)) []]) .ret) .skip)) (.seq (.reg false [oo_ 5
 (.bsl0) [],om_ 6 0 [],oo_ 7 (.app 5 1 1 (.t 5) (.t 6)) [0,1],om_ 2 7 [2,2,0,1,2]]) .ret)))
theorem o_pv : fnOf Tryz.prog o_dt = some (o_du, [.t 2], 8, false) := by kernel_rfl

abbrev o_dv : FuncId := 97
def o_6h : C := (.seq (.reg false [oo_ 2 (.box 23 (.t 0)) [],oo_ 3 (.box 100 (.t 1)) [],oo_ 4 (.new 100 [(.int .i64 0),(.int .i64 0),(.bool false)]) []]) (.seq (.seq (.reg false [oo_ 6 (.fa 0 (.t 2)) [],oo_ 7 (.load false 1 (.t 6))
 [0],oo_ 8 (.bin .eql (.t 7) (.d (.int .i64 4))) [1]]) (.cond (.t 8) (.seq (.reg true [oo_ 9 (.fa 0 (.t 3)) [],oo_ 10 (.load false 1 (.t 9)) [0],oo_ 11 (.bin .and (.t 10) (.d (.int .i64 7))) [1],oo_ 12 (.fa 1 (.t 2))
 [],oo_ 13 (.load false 1 (.t 12)) [3],oo_ 14 (.bin .add (.t 13) (.d (.int .i64 1))) [4],oo_ 15 (.bin .rem (.t 11) (.t 14)) [2,5],oo_ 16 (.fa 1 (.t 3)) [],oo_ 17 (.load false 1 (.t 16)) [7],oo_ 18 (.bin .and (.t 17) (.d
 (.int .i64 3))) [8],oo_ 19 (.fa 2 (.t 2)) [],oo_ 20 (.load false 1 (.t 19)) [10],oo_ 21 (.bin .add (.t 20) (.d (.int .i64 1))) [11],oo_ 22 (.bin .rem (.t 18) (.t 21)) [9,12],oo_ 23 (.fa 0 (.t 3)) [0,1,2,3,4,5,6,7,8],on_
 (.store 1 (.t 23) (.t 15)) [14,6,0,1,2,3,4,5,6,7,8],oo_ 24 (.fa 1 (.t 3)) [0,1,2,3,4,5,6,7,8,9,10,11,12,13,14,15],on_ (.store 1 (.t 24) (.t 22)) [16,13,15,0,1,2,3,4,5,6,7,8,9,10,11,12,13,14,15]]) (.seq (.reg false [oo_
 25 (.fa 2 (.t 3)) [],oo_ 26 (.load false 1 (.t 25)) [0],om_ 27 26 [1],og_ 28 (.fa 1 (.t 3)) 27 true [2],og_ 29 (.load false 1 (.t 28)) 27 true [3,2],og_ 30 (.fa 2 (.t 2)) 27 true [2],og_ 31 (.load false 1 (.t 30)) 27
 true [5,2],og_ 32 (.bin .eql (.t 29) (.t 31)) 27 true [4,6,2],oo_ 33 (.pick (.t 27) (.t 32) (.d (.bool false))) [2,7],oo_ 34 (.fa 2 (.t 3)) [0,1,2,3,4,5,6,7,8],on_ (.store 1 (.t 34) (.t 33)) [9,8,2,0,1,2,3,4,5,6,7,8]])
 (.seq (.reg false [oo_ 35 (.load true 3 (.t 3)) [],on_ (.store 3 (.t 4) (.t 35)) [0,0]]) .ret))) .skip)) (.seq (.reg false [oo_ 36 (.fa 2 (.t 2)) [],oo_ 37 (.load false 1 (.t 36)) [0],oo_ 38 (.bin .shl (.d (.int .i64
 1)) (.t 37)) [1],oo_ 39 (.bin .sub (.t 38) (.d (.int .i64 1))) [2],om_ 5 39 [3,0,1,2,3]]) (.seq (.reg false [oo_ 40 (.fa 0 (.t 3)) [],oo_ 41 (.load false 1 (.t 40)) [0],oo_ 42 (.bin .and (.t 41) (.d (.int .i64 15)))
 [1],om_ 43 5 [],oo_ 44 (.bin .add (.t 43) (.d (.int .i64 1))) [3],oo_ 45 (.bin .rem (.t 42) (.t 44)) [2,4],oo_ 46 (.fa 0 (.t 3)) [0,1,2,3,4,5],on_ (.store 1 (.t 46) (.t 45)) [6,5,0,1,2,3,4,5],oo_ 47 (.fa 1 (.t 3))
 [0,1,2,3,4,5,6,7],on_ (.store 1 (.t 47) (.d (.int .i64 0))) [8,7,0,1,2,3,4,5,6,7]]) (.seq (.reg false [oo_ 48 (.fa 2 (.t 3)) [],oo_ 49 (.load false 1 (.t 48)) [0],om_ 50 49 [1],og_ 51 (.fa 0 (.t 3)) 50 true [2],og_ 52
 (.load false 1 (.t 51)) 50 true [3,2],og_ 53 (.mv (.t 5)) 50 true [2],og_ 54 (.bin .eql (.t 52) (.t 53)) 50 true [4,5,2],oo_ 55 (.pick (.t 50) (.t 54) (.d (.bool false))) [2,6],oo_ 56 (.fa 2 (.t 3))
 [0,1,2,3,4,5,6,7],on_ (.store 1 (.t 56) (.t 55)) [8,7,2,0,1,2,3,4,5,6,7]]) (.seq (.reg false [oo_ 57 (.load true 3 (.t 3)) [],on_ (.store 3 (.t 4) (.t 57)) [0,0]]) .ret))))))
theorem o_dw : fnOf Tryz.prog o_dv = some (o_6h, [.cell 4 true 3], 58, false) := by kernel_rfl

abbrev o_dx : FuncId := 98
def o_dy : C := (.seq (.reg false [oo_ 4 (.mv (.d .nilp)) [],oo_ 5 (.mv (.d (.int .i64 0))) [0]]) (.seq (.seq (.reg false [om_ 6 0 [],oo_ 7 (.bin .lss (.t 6) (.d (.int .i64 0))) [0],om_ 8 7 [1],og_ 9 (.mv (.t 0)) 8 false [2],og_ 10
 (.bin .gtr (.t 9) (.d (.int .i64 256))) 8 false [3,2],oo_ 11 (.pick (.t 8) (.d (.bool true)) (.t 10)) [2,4],om_ 12 11 [5,2],og_ 13 (.mv (.t 1)) 12 false [6],og_ 14 (.bin .lss (.t 13) (.d (.int .i64 1))) 12 false
 [7,6],oo_ 15 (.pick (.t 12) (.d (.bool true)) (.t 14)) [6,8],om_ 16 15 [9,6],og_ 17 (.mv (.t 1)) 16 false [10],og_ 18 (.bin .gtr (.t 17) (.d (.int .i64 32))) 16 false [11,10],oo_ 19 (.pick (.t 16) (.d (.bool true)) (.t
 18)) [10,12]]) (.cond (.t 19) (.seq (.reg false [oo_ 4 (.mv (.d .nilp)) [],oo_ 5 (.mv (.d (.int .i64 10))) [0,0]]) .ret) .skip)) (.seq (.reg false [om_ 20 0 [],om_ 21 1 [],oo_ 22 (.bin .mul (.t 20) (.t 21)) [0,1],oo_ 23
 (.bin .add (.t 22) (.d (.int .i64 64))) [2],oo_ 24 (.bin .sub (.t 23) (.d (.int .i64 1))) [3],oo_ 25 (.bin .quo (.t 24) (.d (.int .i64 64))) [4],oo_ 26 (.mksl 28 1 8 [(.int .u64 0)] (.t 25) (.t 25)) [5,5],om_ 27 0
 [],om_ 28 1 [],oo_ 29 (.build [.nilsl,(.int .i64 0),(.int .i64 0)] [(0,1,(.t 26)),(1,1,(.t 27)),(2,1,(.t 28))]) [6,7,8],oo_ 30 (.box 218 (.t 29)) [9],om_ 4 30 [10,0,1,2,3,4,5,6,7,8,9,10],oo_ 5 (.mv (.d (.int .i64 0)))
 [11,0,1,2,3,4,5,6,7,8,9,10,11]]) .ret)))
theorem o_pw : fnOf Tryz.prog o_dx = some (o_dy, [.t 4, .t 5], 31, false) := by kernel_rfl

abbrev o_dz : FuncId := 99
def o_e0 : C := (.seq (.reg false [oo_ 1 (.box 30 (.t 0)) [],oo_ 2 (.mv (.d (.int .i64 0))) []]) (.seq (.seq (.reg false [oo_ 5 (.load true 3 (.t 1)) [],oo_ 6 (.call 85 [(.t 5)]) [0],oo_ 7 (.bin .neq (.t 6) (.d (.int .i64 0))) [1]])
 (.cond (.t 7) (.seq (.reg false [oo_ 2 (.mv (.d (.int .i64 0))) []]) .ret) .skip)) (.seq (.reg false [oo_ 9 (.load true 3 (.t 1)) [],oo_ 10 (.call 142 [(.t 9)]) [0],om_ 8 10 [1],oo_ 11 (.ext (.t 8) 0) [2],oo_ 12 (.ext
 (.t 8) 1) [2],om_ 3 11 [3,1,0,1,2,3],om_ 4 12 [4,5,0,1,2,3,4,5]]) (.seq (.reg false [om_ 13 3 [],om_ 14 4 [],oo_ 15 (.bin .add (.t 13) (.t 14)) [0,1],oo_ 16 (.bin .add (.t 15) (.d (.int .i64 1))) [2],om_ 2 16
 [3,0,1,2,3]]) .ret))))
theorem o_px : fnOf Tryz.prog o_dz = some (o_e0, [.t 2], 17, false) := by kernel_rfl

abbrev o_e1 : FuncId := 100
def o_e2 : C := (.seq (.reg false [oo_ 2 (.box 62 (.t 0)) [],oo_ 4 (.mv (.d (.int .u64 0))) []]) (.seq (.reg true [oo_ 5 (.fa 0 (.t 2)) [],oo_ 6 (.load false 1 (.t 5)) [0],om_ 7 1 [],oo_ 8 (.call 143 [(.t 6),(.t 7)]) [1,2],oo_ 9 (.fa 1
 (.t 2)) [],oo_ 10 (.load false 1 (.t 9)) [4],oo_ 11 (.bin .add (.t 8) (.t 10)) [3,5],oo_ 12 (.bin .rem (.t 11) (.d (.int .u64 2305843009213693951))) [6],om_ 4 12 [7,3,0,1,2,3,4,5,6,7]]) .ret))
theorem o_py : fnOf Tryz.prog o_e1 = some (o_e2, [.t 4], 13, false) := by kernel_rfl

abbrev o_e3 : FuncId := 101
def o_e4 : C := (.seq (.reg false [oo_ 5 (.box 64 (.t 2)) [],oo_ 6 (.mv (.d (.int .i64 0))) []]) (.seq (.seq (.reg false [om_ 14 0 [],oo_ 15 (.chk (.t 14)) [0],oo_ 16 (.fa 0 (.t 15)) [1],oo_ 17 (.load false 1 (.t 16)) [2],om_ 18 1
 [],oo_ 19 (.call 102 [(.t 17),(.t 18)]) [3,4],om_ 13 19 [5],oo_ 20 (.ext (.t 13) 0) [6],oo_ 21 (.ext (.t 13) 1) [6],om_ 7 20 [7,5,0,1,2,3,4,5,6,7],om_ 8 21 [8,9,0,1,2,3,4,5,6,7,8,9]]) (.seq (.reg false [om_ 22 8 [],oo_
 23 (.bin .neq (.t 22) (.d (.int .i64 0))) [0]]) (.cond (.t 23) (.seq (.reg false [om_ 24 8 [],om_ 6 24 [0,0]]) .ret) .skip))) (.seq (.reg false [oo_ 9 (.new 85 [.nilsl,(.int .i64 0)]) []]) (.seq (.seq (.reg true [om_ 25
 0 [],oo_ 26 (.chk (.t 25)) [0],oo_ 27 (.fa 1 (.t 26)) [1],oo_ 28 (.load true 3 (.t 27)) [2],oo_ 29 (.load true 3 (.t 5)) [],oo_ 30 (.call 144 [(.t 28),(.t 9),(.t 29)]) [3,4],om_ 10 30 [5,5,0,1,2,3,4,5]]) (.seq (.reg
 false [om_ 31 10 [],oo_ 32 (.bin .neq (.t 31) (.d (.int .i64 0))) [0]]) (.cond (.t 32) (.seq (.reg false [om_ 33 10 [],om_ 6 33 [0,0]]) .ret) .skip))) (.seq (.reg true [oo_ 35 (.call 39 [(.t 9)]) [],oo_ 36 (.call 38
 [(.t 35)]) [0,0],om_ 37 0 [],oo_ 38 (.chk (.t 37)) [2],oo_ 39 (.fa 0 (.t 38)) [3],oo_ 40 (.load false 1 (.t 39)) [4],oo_ 41 (.call 103 [(.t 40)]) [5,1],oo_ 42 (.call 90 [(.t 36),(.t 41)]) [1,6,6],om_ 34 42 [7],oo_ 43
 (.ext (.t 34) 0) [8],oo_ 44 (.ext (.t 34) 1) [8],om_ 11 43 [9,7,0,1,2,3,4,5,6,7,8,9],om_ 12 44 [10,11,0,1,2,3,4,5,6,7,8,9,10,11]]) (.seq (.reg false [om_ 45 0 [],oo_ 46 (.chk (.t 45)) [0],oo_ 47 (.fa 0 (.t 46)) [1],oo_
 48 (.load false 1 (.t 47)) [2],om_ 49 1 [],om_ 50 11 [],oo_ 51 (.call 145 [(.t 48),(.t 49),(.t 50)]) [3,4,5],om_ 6 51 [6,6,0,1,2,3,4,5,6]]) .ret))))))
theorem o_pz : fnOf Tryz.prog o_e3 = some (o_e4, [.t 6], 52, false) := by kernel_rfl

abbrev o_e5 : FuncId := 102
def o_e6 : C := (.seq (.reg false [oo_ 4 (.mv (.d (.int .u64 0))) [],oo_ 5 (.mv (.d (.int .i64 0))) [0]]) (.seq (.seq (.reg false [om_ 9 1 [],oo_ 10 (.bin .lss (.t 9) (.d (.int .i64 0))) [0],om_ 11 10 [1],og_ 12 (.mv (.t 1)) 11 false
 [2],og_ 13 (.mv (.t 0)) 11 false [2],og_ 14 (.chk (.t 13)) 11 false [4,2],og_ 15 (.fa 1 (.t 14)) 11 false [5,2],og_ 16 (.load false 1 (.t 15)) 11 false [6,2],og_ 17 (.bin .geq (.t 12) (.t 16)) 11 false [3,7,2],oo_ 18
 (.pick (.t 11) (.d (.bool true)) (.t 17)) [2,8]]) (.cond (.t 18) (.seq (.reg false [oo_ 4 (.mv (.d (.int .u64 0))) [],oo_ 5 (.mv (.d (.int .i64 1))) [0,0]]) .ret) .skip)) (.seq (.reg false [om_ 20 0 [],om_ 21 1 [],oo_
 22 (.call 146 [(.t 20),(.t 21)]) [0,1],om_ 19 22 [2],oo_ 23 (.ext (.t 19) 0) [3],oo_ 24 (.ext (.t 19) 1) [3],om_ 6 23 [4,2,0,1,2,3,4],om_ 7 24 [5,6,0,1,2,3,4,5,6]]) (.seq (.reg false [om_ 25 0 [],oo_ 26 (.chk (.t 25))
 [0],oo_ 27 (.fa 0 (.t 26)) [1],oo_ 28 (.load false 1 (.t 27)) [2],om_ 29 6 [],oo_ 30 (.ix 1 (.t 28) (.t 29)) [3,4],oo_ 31 (.load false 1 (.t 30)) [5],om_ 32 7 [],oo_ 33 (.bin .shr (.t 31) (.t 32)) [6,7],om_ 8 33
 [8,0,1,2,3,4,5,6,7,8]]) (.seq (.seq (.reg false [om_ 34 7 [],om_ 35 0 [],oo_ 36 (.chk (.t 35)) [1],oo_ 37 (.fa 2 (.t 36)) [2],oo_ 38 (.load false 1 (.t 37)) [3],oo_ 39 (.bin .add (.t 34) (.t 38)) [0,4],oo_ 40 (.bin .gtr
 (.t 39) (.d (.int .i64 64))) [5]]) (.cond (.t 40) (.reg false [om_ 41 8 [],om_ 42 0 [],oo_ 43 (.chk (.t 42)) [1],oo_ 44 (.fa 0 (.t 43)) [2],oo_ 45 (.load false 1 (.t 44)) [3],om_ 46 6 [],oo_ 47 (.bin .add (.t 46) (.d
 (.int .i64 1))) [5],oo_ 48 (.ix 1 (.t 45) (.t 47)) [4,6],oo_ 49 (.load false 1 (.t 48)) [7],om_ 50 7 [],oo_ 51 (.bin .sub (.d (.int .i64 64)) (.t 50)) [9],oo_ 52 (.bin .shl (.t 49) (.t 51)) [8,10],oo_ 53 (.bin .or (.t
 41) (.t 52)) [0,11],om_ 8 53 [12,0,1,2,3,4,5,6,7,8,9,10,11,12]]) .skip)) (.seq (.reg false [om_ 54 8 [],om_ 55 0 [],oo_ 56 (.call 147 [(.t 55)]) [1],oo_ 57 (.bin .and (.t 54) (.t 56)) [0,2],om_ 4 57 [3,2,0,1,2,3],oo_ 5
 (.mv (.d (.int .i64 0))) [4,0,1,2,3,4]]) .ret))))))
theorem o_q0 : fnOf Tryz.prog o_e5 = some (o_e6, [.t 4, .t 5], 58, false) := by kernel_rfl

abbrev o_e7 : FuncId := 103
def o_e8 : C := (.seq (.reg false [oo_ 2 (.mv (.d (.int .i64 0))) []]) (.seq (.reg false [om_ 3 0 [],oo_ 4 (.chk (.t 3)) [0],oo_ 5 (.fa 2 (.t 4)) [1],oo_ 6 (.load false 1 (.t 5)) [2],om_ 2 6 [3,0,1,2,3]]) .ret))
theorem o_q1 : fnOf Tryz.prog o_e7 = some (o_e8, [.t 2], 7, false) := by kernel_rfl

abbrev o_e9 : FuncId := 104
def o_6i : C := (.seq (.reg false [oo_ 2 (.box 30 (.t 0)) [],oo_ 4 (.new 64 [(.int .i64 0),(.int .i64 0),(.bool false)]) [],oo_ 5 (.mv (.d (.int .i64 0))) []]) (.seq (.seq (.reg false [oo_ 16 (.load true 3 (.t 2)) [],oo_ 17 (.call 85
 [(.t 16)]) [0],om_ 6 17 [1,1,0,1]]) (.seq (.reg false [om_ 18 6 [],oo_ 19 (.bin .neq (.t 18) (.d (.int .i64 0))) [0]]) (.cond (.t 19) (.seq (.reg false [oo_ 20 (.build [(.int .i64 0),(.int .i64 0),(.bool false)] [])
 [],om_ 21 6 [],on_ (.store 3 (.t 4) (.t 20)) [0,0],om_ 5 21 [1,2,0,1,2]]) .ret) .skip))) (.seq (.seq (.reg true [om_ 22 1 [],oo_ 23 (.call 42 [(.t 22)]) [0],oo_ 24 (.load true 3 (.t 2)) [],oo_ 25 (.call 99 [(.t 24)])
 [2,1],oo_ 26 (.bin .lss (.t 23) (.t 25)) [1,3]]) (.cond (.t 26) (.seq (.reg false [oo_ 27 (.build [(.int .i64 0),(.int .i64 0),(.bool false)] []) [],on_ (.store 3 (.t 4) (.t 27)) [0,0],oo_ 5 (.mv (.d (.int .i64 5)))
 [1,0,1]]) .ret) .skip)) (.seq (.reg false [oo_ 29 (.load true 3 (.t 2)) [],oo_ 30 (.call 142 [(.t 29)]) [0],om_ 28 30 [1],oo_ 31 (.ext (.t 28) 0) [2],oo_ 32 (.ext (.t 28) 1) [2],om_ 7 31 [3,1,0,1,2,3],om_ 8 32
 [4,5,0,1,2,3,4,5]]) (.seq (.reg false [om_ 34 1 [],om_ 35 7 [],oo_ 36 (.call 90 [(.t 34),(.t 35)]) [0,1],om_ 33 36 [2],oo_ 37 (.ext (.t 33) 0) [3],oo_ 38 (.ext (.t 33) 1) [3],om_ 9 37 [4,2,0,1,2,3,4],om_ 10 38
 [5,6,0,1,2,3,4,5,6]]) (.seq (.reg false [om_ 40 1 [],om_ 41 8 [],oo_ 42 (.call 90 [(.t 40),(.t 41)]) [0,1],om_ 39 42 [2],oo_ 43 (.ext (.t 39) 0) [3],oo_ 44 (.ext (.t 39) 1) [3],om_ 11 43 [4,2,0,1,2,3,4],om_ 12 44
 [5,6,0,1,2,3,4,5,6]]) (.seq (.reg false [om_ 46 1 [],oo_ 47 (.call 41 [(.t 46)]) [0],om_ 45 47 [1],oo_ 48 (.ext (.t 45) 0) [2],oo_ 49 (.ext (.t 45) 1) [2],om_ 13 48 [3,1,0,1,2,3],om_ 14 49 [4,5,0,1,2,3,4,5]]) (.seq
 (.reg false [om_ 50 9 [],oo_ 51 (.conv .i64 (.t 50)) [0],om_ 52 11 [],oo_ 53 (.conv .i64 (.t 52)) [2],om_ 54 13 [],oo_ 55 (.build [(.int .i64 0),(.int .i64 0),(.bool false)] [(0,1,(.t 51)),(1,1,(.t 53)),(2,1,(.t 54))])
 [1,3,4],oo_ 15 (.new 64 [(.int .i64 0),(.int .i64 0),(.bool false)]) [],on_ (.store 3 (.t 15) (.t 55)) [6,5,0,1,2,3,4,5,6]]) (.seq (.seq (.reg false [oo_ 56 (.load true 3 (.t 2)) [],oo_ 57 (.load true 3 (.t 15)) [],oo_
 58 (.call 118 [(.t 56),(.t 57)]) [0,1],oo_ 59 (.un .not (.t 58)) [2]]) (.cond (.t 59) (.seq (.reg false [oo_ 60 (.build [(.int .i64 0),(.int .i64 0),(.bool false)] []) [],on_ (.store 3 (.t 4) (.t 60)) [0,0],oo_ 5 (.mv
 (.d (.int .i64 4))) [1,0,1]]) .ret) .skip)) (.seq (.reg false [oo_ 61 (.load true 3 (.t 15)) [],on_ (.store 3 (.t 4) (.t 61)) [0,0],oo_ 5 (.mv (.d (.int .i64 0))) [1,0,1]]) .ret))))))))))
theorem o_q2 : fnOf Tryz.prog o_e9 = some (o_6i, [.cell 4 true 3, .t 5], 62, false) := by kernel_rfl

abbrev o_ea : FuncId := 105
def o_eb : C := (.seq (.reg false [oo_ 2 (.box 47 (.t 0)) [],oo_ 3 (.box 47 (.t 1)) [],oo_ 4 (.mv (.d (.int .i64 0))) []]) (.seq (.seq (.reg false [oo_ 9 (.fa 0 (.t 2)) [],oo_ 10 (.load false 1 (.t 9)) [0],oo_ 11 (.len (.t 10)) [1],oo_
 12 (.fa 0 (.t 3)) [],oo_ 13 (.load false 1 (.t 12)) [3],oo_ 14 (.len (.t 13)) [4],oo_ 15 (.bin .sub (.t 11) (.t 14)) [2,5],om_ 5 15 [6,0,1,2,3,4,5,6]]) (.seq (.reg false [om_ 16 5 [],oo_ 17 (.bin .neq (.t 16) (.d (.int
 .i64 0))) [0]]) (.cond (.t 17) (.seq (.reg false [om_ 18 5 [],oo_ 19 (.mm false [(.t 18),(.d (.int .i64 1))]) [0],oo_ 20 (.mm true [(.d (.int .i64 (-1))),(.t 19)]) [1],om_ 4 20 [2,0,1,2]]) .ret) .skip))) (.seq (.seq
 (.reg false [oo_ 21 (.fa 0 (.t 2)) [],oo_ 22 (.load false 1 (.t 21)) [0],oo_ 23 (.len (.t 22)) [1],oo_ 24 (.bin .sub (.t 23) (.d (.int .i64 1))) [2],om_ 6 24 [3,0,1,2,3]]) (.block 0 (.loop (.seq (.seq (.reg false [om_
 25 6 [],oo_ 26 (.bin .geq (.t 25) (.d (.int .i64 0))) [0]]) (.cond (.t 26) .skip (.exit 0))) (.seq (.block 1 (.seq (.reg true [oo_ 29 (.fa 0 (.t 2)) [],oo_ 30 (.load false 1 (.t 29)) [0],om_ 31 6 [],oo_ 32 (.ix 1 (.t
 30) (.t 31)) [1,2],oo_ 33 (.load false 1 (.t 32)) [3],oo_ 34 (.fa 0 (.t 3)) [],oo_ 35 (.load false 1 (.t 34)) [5],om_ 36 6 [],oo_ 37 (.ix 1 (.t 35) (.t 36)) [6,7],oo_ 38 (.load false 1 (.t 37)) [8],om_ 7 33
 [4,0,1,2,3,4],om_ 8 38 [9,10,0,1,2,3,4,5,6,7,8,9,10]]) (.block 2 (.seq (.reg false [om_ 40 7 [],om_ 41 8 [],oo_ 42 (.bin .lss (.t 40) (.t 41)) [0,1],om_ 39 42 [2]]) (.cond (.t 39) (.seq (.reg false [oo_ 4 (.mv (.d (.int
 .i64 (-1)))) []]) .ret) (.seq (.reg false [om_ 44 7 [],om_ 45 8 [],oo_ 46 (.bin .gtr (.t 44) (.t 45)) [0,1],om_ 43 46 [2]]) (.cond (.t 43) (.seq (.reg false [oo_ 4 (.mv (.d (.int .i64 1))) []]) .ret) .skip))))))) (.reg
 false [om_ 27 6 [],oo_ 28 (.bin .sub (.t 27) (.d (.int .i64 1))) [0],om_ 6 28 [1,0,1]])))))) (.seq (.reg false [oo_ 4 (.mv (.d (.int .i64 0))) []]) .ret))))
theorem o_q3 : fnOf Tryz.prog o_ea = some (o_eb, [.t 4], 47, false) := by kernel_rfl

abbrev o_3p : FuncId := 106
def o_6j : C := (.seq (.reg false [oo_ 3 (.box 47 (.t 1)) [],oo_ 4 (.new 49 [.nilsl,(.bool false)]) []]) (.seq (.reg true [oo_ 5 (.load true 1 (.t 3)) [],om_ 6 0 [],om_ 7 6 [1],og_ 8 (.load true 1 (.t 3)) 7 true [2],og_ 9 (.call 109
 [(.t 8)]) 7 true [3,2,2],og_ 10 (.un .not (.t 9)) 7 true [4,2],oo_ 11 (.pick (.t 7) (.t 10) (.d (.bool false))) [2,5],oo_ 12 (.build [.nilsl,(.bool false)] [(0,1,(.t 5)),(1,1,(.t 11))]) [0,6],on_ (.store 2 (.t 4) (.t
 12)) [7,4,0,1,2,3,4,5,6,7]]) .ret))
theorem o_ec : fnOf Tryz.prog o_3p = some (o_6j, [.cell 4 true 2], 13, false) := by kernel_rfl

abbrev o_ed : FuncId := 107
def o_ee : C := (.seq (.reg false [oo_ 2 (.box 47 (.t 0)) [],oo_ 3 (.box 47 (.t 1)) [],oo_ 4 (.new 47 [.nilsl]) []]) (.seq (.reg false [oo_ 14 (.fa 0 (.t 2)) [],oo_ 15 (.load false 1 (.t 14)) [0],oo_ 16 (.len (.t 15)) [1],oo_ 17 (.fa 0
 (.t 3)) [],oo_ 18 (.load false 1 (.t 17)) [3],oo_ 19 (.len (.t 18)) [4],oo_ 20 (.bin .add (.t 16) (.t 19)) [2,5],oo_ 21 (.mksl 28 1 8 [(.int .u64 0)] (.t 20) (.t 20)) [6,6],om_ 5 21 [7,0,1,2,3,4,5,6,7]]) (.seq (.seq
 (.reg false [oo_ 22 (.fa 0 (.t 2)) [],oo_ 23 (.load false 1 (.t 22)) [0],oo_ 24 (.len (.t 23)) [1],oo_ 25 (.mv (.d (.int .i64 0))) []]) (.block 0 (.loop (.seq (.reg false [oo_ 26 (.bin .lss (.t 25) (.t 24)) []]) (.seq
 (.cond (.t 26) .skip (.exit 0)) (.seq (.block 1 (.seq (.reg false [om_ 27 25 [],oo_ 28 (.ix 1 (.t 23) (.t 25)) [],oo_ 29 (.load false 1 (.t 28)) [1],om_ 6 27 [0,0,1,2],om_ 7 29 [2,3,0,1,2,3]]) (.seq (.reg false [oo_ 8
 (.mv (.d (.int .u64 0))) []]) (.seq (.seq (.reg false [oo_ 30 (.fa 0 (.t 3)) [],oo_ 31 (.load false 1 (.t 30)) [0],oo_ 32 (.len (.t 31)) [1],oo_ 33 (.mv (.d (.int .i64 0))) []]) (.block 2 (.loop (.seq (.reg false [oo_
 34 (.bin .lss (.t 33) (.t 32)) []]) (.seq (.cond (.t 34) .skip (.exit 2)) (.seq (.block 3 (.seq (.reg false [om_ 35 33 [],oo_ 36 (.ix 1 (.t 31) (.t 33)) [],oo_ 37 (.load false 1 (.t 36)) [1],om_ 9 35 [0,0,1,2],om_ 10 37
 [2,3,0,1,2,3]]) (.seq (.reg false [om_ 39 7 [],om_ 40 10 [],oo_ 41 (.call 148 [(.t 39),(.t 40)]) [0,1],om_ 38 41 [2],oo_ 42 (.ext (.t 38) 0) [3],oo_ 43 (.ext (.t 38) 1) [3],om_ 11 42 [4,2,0,1,2,3,4],om_ 12 43
 [5,6,0,1,2,3,4,5,6]]) (.seq (.reg false [oo_ 13 (.mv (.d (.int .u64 0))) []]) (.seq (.reg false [om_ 45 12 [],om_ 46 5 [],om_ 47 6 [],om_ 48 9 [],oo_ 49 (.bin .add (.t 47) (.t 48)) [2,3],oo_ 50 (.ix 1 (.t 46) (.t 49))
 [1,4],oo_ 51 (.load false 1 (.t 50)) [5],oo_ 52 (.call 149 [(.t 45),(.t 51),(.d (.int .u64 0))]) [0,6],om_ 44 52 [7],oo_ 53 (.ext (.t 44) 0) [8],oo_ 54 (.ext (.t 44) 1) [8],om_ 12 53 [9,7,0,1,2,3,4,5,6,7,8,9],om_ 13 54
 [10,11,0,1,2,3,4,5,6,7,8,9,10,11]]) (.seq (.reg false [om_ 55 11 [],om_ 56 13 [],oo_ 57 (.bin .add (.t 55) (.t 56)) [0,1],om_ 11 57 [2,0,1,2]]) (.seq (.reg false [om_ 59 12 [],om_ 60 8 [],oo_ 61 (.call 149 [(.t 59),(.t
 60),(.d (.int .u64 0))]) [0,1],om_ 58 61 [2],oo_ 62 (.ext (.t 58) 0) [3],oo_ 63 (.ext (.t 58) 1) [3],om_ 12 62 [4,2,0,1,2,3,4],om_ 13 63 [5,6,0,1,2,3,4,5,6]]) (.reg false [om_ 64 5 [],om_ 65 6 [],om_ 66 9 [],oo_ 67
 (.bin .add (.t 65) (.t 66)) [1,2],om_ 68 12 [],om_ 69 11 [],om_ 70 13 [],oo_ 71 (.bin .add (.t 69) (.t 70)) [5,6],oo_ 72 (.ix 1 (.t 64) (.t 67)) [0,3,0,1,2,3,4],on_ (.store 1 (.t 72) (.t 68)) [8,4,0,1,2,3,4],om_ 8 71
 [7,9,0,1,2,3,4,5,6,7,8,9]])))))))) (.reg false [oo_ 73 (.bin .add (.t 33) (.d (.int .i64 1))) [],om_ 33 73 [0]]))))))) (.reg false [om_ 74 5 [],om_ 75 6 [],oo_ 76 (.fa 0 (.t 3)) [],oo_ 77 (.load false 1 (.t 76)) [2],oo_
 78 (.len (.t 77)) [3],oo_ 79 (.bin .add (.t 75) (.t 78)) [1,4],om_ 80 8 [],oo_ 81 (.ix 1 (.t 74) (.t 79)) [0,5,0,1,2,3,4,5,6],on_ (.store 1 (.t 81) (.t 80)) [7,6,0,1,2,3,4,5,6]]))))) (.reg false [oo_ 82 (.bin .add (.t
 25) (.d (.int .i64 1))) [],om_ 25 82 [0]]))))))) (.seq (.reg false [om_ 83 5 [],oo_ 84 (.call 112 [(.t 83)]) [0],on_ (.store 1 (.t 4) (.t 84)) [1,1,0,1]]) .ret))))
theorem o_q4 : fnOf Tryz.prog o_ed = some (o_ee, [.cell 4 true 1], 85, false) := by kernel_rfl

abbrev o_3q : FuncId := 108
def o_ef : C := (.seq (.reg false [oo_ 2 (.new 47 [.nilsl]) []]) (.seq (.reg false [om_ 3 0 [],oo_ 4 (.call 150 [(.t 3)]) [0],oo_ 5 (.call 112 [(.t 4)]) [1,1],on_ (.store 1 (.t 2) (.t 5)) [2,2,0,1,2]]) .ret))
theorem o_q5 : fnOf Tryz.prog o_3q = some (o_ef, [.cell 2 true 1], 6, false) := by kernel_rfl

abbrev o_eg : FuncId := 109
def o_eh : C := (.seq (.reg false [oo_ 1 (.box 47 (.t 0)) [],oo_ 2 (.mv (.d (.bool false))) []]) (.seq (.reg false [oo_ 3 (.fa 0 (.t 1)) [],oo_ 4 (.load false 1 (.t 3)) [0],oo_ 5 (.len (.t 4)) [1],oo_ 6 (.bin .eql (.t 5) (.d (.int .i64
 0))) [2],om_ 2 6 [3,0,1,2,3]]) .ret))
theorem o_q6 : fnOf Tryz.prog o_eg = some (o_eh, [.t 2], 7, false) := by kernel_rfl

abbrev o_ei : FuncId := 110
def o_ej : C := (.seq (.reg false [oo_ 2 (.box 47 (.t 0)) [],oo_ 3 (.box 47 (.t 1)) [],oo_ 4 (.new 47 [.nilsl]) []]) (.seq (.seq (.reg false [oo_ 10 (.fa 0 (.t 2)) [],oo_ 11 (.load false 1 (.t 10)) [0],oo_ 12 (.len (.t 11)) [1],oo_ 13
 (.fa 0 (.t 3)) [],oo_ 14 (.load false 1 (.t 13)) [3],oo_ 15 (.len (.t 14)) [4],oo_ 16 (.bin .lss (.t 12) (.t 15)) [2,5]]) (.cond (.t 16) (.reg false [oo_ 17 (.load true 1 (.t 3)) [],oo_ 18 (.load true 1 (.t 2)) [],on_
 (.store 1 (.t 2) (.t 17)) [0,0,1],on_ (.store 1 (.t 3) (.t 18)) [1,2,0,1,2]]) .skip)) (.seq (.reg false [oo_ 19 (.fa 0 (.t 2)) [],oo_ 20 (.load false 1 (.t 19)) [0],oo_ 21 (.len (.t 20)) [1],oo_ 22 (.bin .add (.t 21)
 (.d (.int .i64 1))) [2],oo_ 23 (.mksl 28 1 8 [(.int .u64 0)] (.t 22) (.t 22)) [3,3],om_ 5 23 [4,0,1,2,3,4]]) (.seq (.reg false [oo_ 6 (.mv (.d (.int .u64 0))) []]) (.seq (.seq (.reg false [oo_ 24 (.fa 0 (.t 2)) [],oo_
 25 (.load false 1 (.t 24)) [0],oo_ 26 (.len (.t 25)) [1],oo_ 27 (.mv (.d (.int .i64 0))) []]) (.block 0 (.loop (.seq (.reg false [oo_ 28 (.bin .lss (.t 27) (.t 26)) []]) (.seq (.cond (.t 28) .skip (.exit 0)) (.seq
 (.block 1 (.seq (.reg false [om_ 29 27 [],oo_ 30 (.ix 1 (.t 25) (.t 27)) [],oo_ 31 (.load false 1 (.t 30)) [1],om_ 7 29 [0,0,1,2],om_ 8 31 [2,3,0,1,2,3]]) (.seq (.reg false [oo_ 9 (.mv (.d (.int .u64 0))) []]) (.seq
 (.seq (.reg false [om_ 32 7 [],oo_ 33 (.fa 0 (.t 3)) [],oo_ 34 (.load false 1 (.t 33)) [1],oo_ 35 (.len (.t 34)) [2],oo_ 36 (.bin .lss (.t 32) (.t 35)) [0,3]]) (.cond (.t 36) (.reg false [oo_ 37 (.fa 0 (.t 3)) [],oo_ 38
 (.load false 1 (.t 37)) [0],om_ 39 7 [],oo_ 40 (.ix 1 (.t 38) (.t 39)) [1,2],oo_ 41 (.load false 1 (.t 40)) [3],om_ 9 41 [4,0,1,2,3,4]]) .skip)) (.reg false [om_ 43 5 [],om_ 44 7 [],om_ 45 8 [],om_ 46 9 [],om_ 47 6
 [],oo_ 48 (.call 149 [(.t 45),(.t 46),(.t 47)]) [2,3,4],om_ 42 48 [5],oo_ 49 (.ext (.t 42) 0) [6],oo_ 50 (.ext (.t 42) 1) [6],oo_ 51 (.ix 1 (.t 43) (.t 44)) [0,1,0,1,2,3,4,5,6,7],on_ (.store 1 (.t 51) (.t 49))
 [9,7,5,0,1,2,3,4,5,6,7],om_ 6 50 [8,10,0,1,2,3,4,5,6,7,8,9,10]]))))) (.reg false [oo_ 52 (.bin .add (.t 27) (.d (.int .i64 1))) [],om_ 27 52 [0]]))))))) (.seq (.reg false [om_ 53 5 [],oo_ 54 (.fa 0 (.t 2)) [],oo_ 55
 (.load false 1 (.t 54)) [1],oo_ 56 (.len (.t 55)) [2],om_ 57 6 [],oo_ 58 (.ix 1 (.t 53) (.t 56)) [0,3,0,1,2,3,4],on_ (.store 1 (.t 58) (.t 57)) [5,4,0,1,2,3,4]]) (.seq (.reg false [om_ 59 5 [],oo_ 60 (.call 112 [(.t
 59)]) [0],on_ (.store 1 (.t 4) (.t 60)) [1,1,0,1]]) .ret)))))))
theorem o_q7 : fnOf Tryz.prog o_ei = some (o_ej, [.cell 4 true 1], 61, false) := by kernel_rfl

abbrev o_6k : FuncId := 111
def o_6l : C := (.seq (.reg false [oo_ 4 (.mv (.d .nilsl)) [],oo_ 5 (.mv (.d (.int .u64 0))) [0]]) (.seq (.reg false [om_ 9 0 [],oo_ 10 (.len (.t 9)) [0],oo_ 11 (.mksl 28 1 8 [(.int .u64 0)] (.t 10) (.t 10)) [1,1],om_ 6 11 [2,0,1,2]])
 (.seq (.reg false [oo_ 7 (.mv (.d (.int .u64 0))) []]) (.seq (.seq (.reg false [om_ 12 0 [],oo_ 13 (.len (.t 12)) [0],oo_ 14 (.bin .sub (.t 13) (.d (.int .i64 1))) [1],om_ 8 14 [2,0,1,2]]) (.block 0 (.loop (.seq (.seq
 (.reg false [om_ 15 8 [],oo_ 16 (.bin .geq (.t 15) (.d (.int .i64 0))) [0]]) (.cond (.t 16) .skip (.exit 0))) (.seq (.block 1 (.reg false [om_ 20 6 [],om_ 21 8 [],om_ 22 7 [],om_ 23 0 [],om_ 24 8 [],oo_ 25 (.ix 1 (.t
 23) (.t 24)) [3,4],oo_ 26 (.load false 1 (.t 25)) [5],om_ 27 1 [],oo_ 28 (.call 151 [(.t 22),(.t 26),(.t 27)]) [2,6,7],om_ 19 28 [8],oo_ 29 (.ext (.t 19) 0) [9],oo_ 30 (.ext (.t 19) 1) [9],oo_ 31 (.ix 1 (.t 20) (.t 21))
 [0,1,0,1,2,3,4,5,6,7,8,9,10],on_ (.store 1 (.t 31) (.t 29)) [12,10,8,0,1,2,3,4,5,6,7,8,9,10],om_ 7 30 [11,13,0,1,2,3,4,5,6,7,8,9,10,11,12,13]])) (.reg false [om_ 17 8 [],oo_ 18 (.bin .sub (.t 17) (.d (.int .i64 1)))
 [0],om_ 8 18 [1,0,1]])))))) (.seq (.reg false [om_ 32 6 [],om_ 33 7 [],om_ 4 32 [0,0],om_ 5 33 [1,2,0,1,2]]) .ret)))))
theorem o_ek : fnOf Tryz.prog o_6k = some (o_6l, [.t 4, .t 5], 34, false) := by kernel_rfl

abbrev o_el : FuncId := 112
def o_em : C := (.seq (.reg false [oo_ 2 (.new 47 [.nilsl]) []]) (.seq (.reg false [om_ 4 0 [],oo_ 5 (.len (.t 4)) [0],om_ 3 5 [1,0,1]]) (.seq (.block 0 (.loop (.seq (.seq (.reg false [om_ 6 3 [],oo_ 7 (.bin .gtr (.t 6) (.d (.int .i64
 0))) [0],om_ 8 7 [1],og_ 9 (.mv (.t 0)) 8 true [2],og_ 10 (.mv (.t 3)) 8 true [2],og_ 11 (.bin .sub (.t 10) (.d (.int .i64 1))) 8 true [4,2],og_ 12 (.ix 1 (.t 9) (.t 11)) 8 true [3,5,2],og_ 13 (.load false 1 (.t 12)) 8
 true [6,2],og_ 14 (.bin .eql (.t 13) (.d (.int .u64 0))) 8 true [7,2],oo_ 15 (.pick (.t 8) (.t 14) (.d (.bool false))) [2,8]]) (.cond (.t 15) .skip (.exit 0))) (.block 1 (.reg false [om_ 16 3 [],oo_ 17 (.bin .sub (.t
 16) (.d (.int .i64 1))) [0],om_ 3 17 [1,0,1]]))))) (.seq (.reg false [om_ 18 0 [],om_ 19 3 [],oo_ 20 (.slice 1 (.t 18) none (some (.t 19)) none) [0,1],oo_ 21 (.build [.nilsl] [(0,1,(.t 20))]) [2],on_ (.store 1 (.t 2)
 (.t 21)) [3,0,1,2,3]]) .ret))))
theorem o_q8 : fnOf Tryz.prog o_el = some (o_em, [.cell 2 true 1], 22, false) := by kernel_rfl

abbrev o_en : FuncId := 113
def o_eo : C := (.seq (.reg false [⟨some 4,.mv (.d (.str ⟨#[]⟩)),none,[]⟩]) (.seq (.reg false [om_ 5 0 [],om_ 6 1 [],oo_ 7 (.call 152 [(.t 5),(.t 6)]) [0,1],om_ 4 7 [2,2,0,1,2]]) .ret))
theorem o_q9 : fnOf Tryz.prog o_en = some (o_eo, [.t 4], 8, false) := by kernel_rfl

abbrev o_ep : FuncId := 115
def o_eq : C := (.seq (.reg false [oo_ 4 (.mv (.d .nilsl)) [],oo_ 5 (.mv (.d .nilsl)) [0]]) (.seq (.reg false [om_ 12 0 [],oo_ 13 (.len (.t 12)) [0],oo_ 14 (.mksl 3 1 8 [(.int .i64 0)] (.t 13) (.t 13)) [1,1],om_ 6 14 [2,0,1,2]]) (.seq
 (.reg false [oo_ 7 (.mv (.d .nilsl)) []]) (.seq (.seq (.reg false [om_ 15 0 [],oo_ 16 (.len (.t 15)) [0],oo_ 17 (.bin .sub (.t 16) (.d (.int .i64 1))) [1],om_ 8 17 [2,0,1,2]]) (.block 0 (.loop (.seq (.seq (.reg false
 [om_ 18 8 [],oo_ 19 (.bin .geq (.t 18) (.d (.int .i64 0))) [0]]) (.cond (.t 19) .skip (.exit 0))) (.seq (.block 1 (.seq (.reg false [om_ 22 0 [],om_ 23 8 [],oo_ 24 (.ix 1 (.t 22) (.t 23)) [0,1],oo_ 25 (.load false 1 (.t
 24)) [2],oo_ 26 (.bsl 3 1 1 [(.int .i64 0)] [(0,1,(.t 25))]) [3],om_ 27 7 [],oo_ 28 (.app 3 1 8 (.t 26) (.t 27)) [4,5],oo_ 29 (.call 116 [(.t 28)]) [6,6],om_ 7 29 [7,7,0,1,2,3,4,5,6,7]]) (.seq (.reg false [oo_ 9 (.mv
 (.d (.int .i64 0))) []]) (.seq (.reg false [oo_ 10 (.mv (.d (.int .i64 10000))) []]) (.seq (.block 2 (.loop (.seq (.seq (.reg false [om_ 30 10 [],om_ 31 9 [],oo_ 32 (.bin .sub (.t 30) (.t 31)) [0,1],oo_ 33 (.bin .gtr
 (.t 32) (.d (.int .i64 1))) [2]]) (.cond (.t 33) .skip (.exit 2))) (.block 3 (.seq (.reg false [om_ 34 9 [],om_ 35 10 [],oo_ 36 (.bin .add (.t 34) (.t 35)) [0,1],oo_ 37 (.bin .quo (.t 36) (.d (.int .i64 2))) [2],om_ 11
 37 [3,0,1,2,3]]) (.seq (.reg false [om_ 38 1 [],om_ 39 11 [],oo_ 40 (.call 117 [(.t 39)]) [1],oo_ 41 (.call 64 [(.t 38),(.t 40)]) [0,2,2],om_ 42 7 [],oo_ 43 (.call 159 [(.t 41),(.t 42)]) [3,4,3],oo_ 44 (.bin .leq (.t
 43) (.d (.int .i64 0))) [5]]) (.cond (.t 44) (.reg false [om_ 45 11 [],om_ 9 45 [0,0]]) (.reg false [om_ 46 11 [],om_ 10 46 [0,0]])))))))) (.seq (.reg false [om_ 47 6 [],om_ 48 8 [],om_ 49 9 [],oo_ 50 (.ix 1 (.t 47) (.t
 48)) [0,1,0,1,2],on_ (.store 1 (.t 50) (.t 49)) [3,2,0,1,2]]) (.reg false [om_ 51 7 [],om_ 52 1 [],om_ 53 9 [],oo_ 54 (.call 117 [(.t 53)]) [2],oo_ 55 (.call 64 [(.t 52),(.t 54)]) [1,3,3],oo_ 56 (.call 160 [(.t 51),(.t
 55)]) [0,4,4],om_ 7 56 [5,5,0,1,2,3,4,5]]))))))) (.reg false [om_ 20 8 [],oo_ 21 (.bin .sub (.t 20) (.d (.int .i64 1))) [0],om_ 8 21 [1,0,1]])))))) (.seq (.reg false [om_ 57 6 [],oo_ 58 (.call 116 [(.t 57)]) [0],om_ 59
 7 [],om_ 4 58 [1,1,0,1],om_ 5 59 [2,3,0,1,2,3]]) .ret)))))
theorem o_qa : fnOf Tryz.prog o_ep = some (o_eq, [.t 4, .t 5], 60, false) := by kernel_rfl

abbrev o_1y : FuncId := 116
def o_er : C := (.seq (.reg false [oo_ 2 (.mv (.d .nilsl)) []]) (.seq (.reg false [om_ 4 0 [],oo_ 5 (.len (.t 4)) [0],om_ 3 5 [1,0,1]]) (.seq (.block 0 (.loop (.seq (.seq (.reg false [om_ 6 3 [],oo_ 7 (.bin .gtr (.t 6) (.d (.int .i64
 0))) [0],om_ 8 7 [1],og_ 9 (.mv (.t 0)) 8 true [2],og_ 10 (.mv (.t 3)) 8 true [2],og_ 11 (.bin .sub (.t 10) (.d (.int .i64 1))) 8 true [4,2],og_ 12 (.ix 1 (.t 9) (.t 11)) 8 true [3,5,2],og_ 13 (.load false 1 (.t 12)) 8
 true [6,2],og_ 14 (.bin .eql (.t 13) (.d (.int .i64 0))) 8 true [7,2],oo_ 15 (.pick (.t 8) (.t 14) (.d (.bool false))) [2,8]]) (.cond (.t 15) .skip (.exit 0))) (.block 1 (.reg false [om_ 16 3 [],oo_ 17 (.bin .sub (.t
 16) (.d (.int .i64 1))) [0],om_ 3 17 [1,0,1]]))))) (.seq (.reg false [om_ 18 0 [],om_ 19 3 [],oo_ 20 (.slice 1 (.t 18) none (some (.t 19)) none) [0,1],om_ 2 20 [2,0,1,2]]) .ret))))
theorem o_qb : fnOf Tryz.prog o_1y = some (o_er, [.t 2], 21, false) := by kernel_rfl

abbrev o_2p : FuncId := 117
def o_es : C := (.seq (.reg false [oo_ 2 (.mv (.d .nilsl)) []]) (.seq (.reg false [oo_ 3 (.mv (.d .nilsl)) []]) (.seq (.block 0 (.loop (.seq (.seq (.reg false [om_ 4 0 [],oo_ 5 (.bin .gtr (.t 4) (.d (.int .i64 0))) [0]]) (.cond (.t 5)
 .skip (.exit 0))) (.block 1 (.seq (.reg false [om_ 6 3 [],om_ 7 0 [],oo_ 8 (.bin .rem (.t 7) (.d (.int .i64 10000))) [1],oo_ 9 (.bsl 3 1 1 [(.int .i64 0)] [(0,1,(.t 8))]) [2],oo_ 10 (.app 3 1 8 (.t 6) (.t 9)) [0,3],om_
 3 10 [4,4,0,1,2,3,4]]) (.reg false [om_ 11 0 [],oo_ 12 (.bin .quo (.t 11) (.d (.int .i64 10000))) [0],om_ 0 12 [1,0,1]])))))) (.seq (.reg false [om_ 13 3 [],om_ 2 13 [0,0]]) .ret))))
theorem o_qc : fnOf Tryz.prog o_2p = some (o_es, [.t 2], 14, false) := by kernel_rfl

abbrev o_et : FuncId := 118
def o_6m : C := (.seq (.reg false [oo_ 2 (.box 30 (.t 0)) [],oo_ 3 (.box 64 (.t 1)) [],oo_ 4 (.mv (.d (.bool false))) []]) (.seq (.seq (.reg false [oo_ 6 (.load true 3 (.t 2)) [],oo_ 7 (.call 85 [(.t 6)]) [0],oo_ 8 (.bin .neq (.t 7)
 (.d (.int .i64 0))) [1]]) (.cond (.t 8) (.seq (.reg false [oo_ 4 (.mv (.d (.bool false))) []]) .ret) .skip)) (.seq (.seq (.reg false [oo_ 9 (.fa 0 (.t 2)) [],oo_ 10 (.load false 1 (.t 9)) [0],oo_ 11 (.bin .eql (.t 10)
 (.d (.int .i64 4))) [1]]) (.cond (.t 11) (.seq (.reg true [oo_ 12 (.load true 3 (.t 2)) [],oo_ 13 (.call 67 [(.t 12)]) [0],oo_ 14 (.load true 3 (.t 3)) [],oo_ 15 (.call 69 [(.t 14)]) [2,1],oo_ 16 (.call 161 [(.t 13),(.t
 15)]) [1,3,3],om_ 4 16 [4,4,0,1,2,3,4]]) .ret) .skip)) (.seq (.reg false [oo_ 17 (.load true 3 (.t 2)) [],oo_ 18 (.call 71 [(.t 17)]) [0],oo_ 19 (.call 129 [(.t 18)]) [1,1],om_ 5 19 [2,2,0,1,2]]) (.seq (.reg false [oo_
 20 (.fa 1 (.t 3)) [],oo_ 21 (.load false 1 (.t 20)) [0],oo_ 22 (.bin .eql (.t 21) (.d (.int .i64 0))) [1],om_ 23 22 [2],og_ 24 (.fa 0 (.t 3)) 23 true [3],og_ 25 (.load false 1 (.t 24)) 23 true [4,3],og_ 26 (.bin .geq
 (.t 25) (.d (.int .i64 0))) 23 true [5,3],oo_ 27 (.pick (.t 23) (.t 26) (.d (.bool false))) [3,6],om_ 28 27 [7,3],og_ 29 (.fa 0 (.t 3)) 28 true [8],og_ 30 (.load false 1 (.t 29)) 28 true [9,8],og_ 31 (.mv (.t 5)) 28
 true [8],og_ 32 (.bin .leq (.t 30) (.t 31)) 28 true [10,11,8],oo_ 33 (.pick (.t 28) (.t 32) (.d (.bool false))) [8,12],om_ 34 33 [13,8],og_ 35 (.fa 2 (.t 3)) 34 true [14],og_ 36 (.load false 1 (.t 35)) 34 true
 [15,14],og_ 37 (.un .not (.t 36)) 34 true [16,14],og_ 38 (.mv (.t 37)) 34 true [17,14,14],og_ 39 (.fa 0 (.t 3)) 38 false [18],og_ 40 (.load false 1 (.t 39)) 38 false [19,18],og_ 41 (.mv (.t 5)) 38 false [18],og_ 42
 (.bin .eql (.t 40) (.t 41)) 38 false [20,21,18],og_ 43 (.pick (.t 38) (.d (.bool true)) (.t 42)) 34 true [18,22,14],oo_ 44 (.pick (.t 34) (.t 43) (.d (.bool false))) [14,23],om_ 4 44
 [24,18,0,1,2,3,4,5,6,7,8,9,10,11,12,13,14,15,16,17,18,19,20,21,22,23,24]]) .ret)))))
theorem o_qd : fnOf Tryz.prog o_et = some (o_6m, [.t 4], 45, false) := by kernel_rfl

abbrev o_eu : FuncId := 119
def o_ev : C := (.seq (.reg false [oo_ 2 (.box 135 (.t 0)) [],oo_ 4 (.mv (.d (.int .i64 0))) []]) (.seq (.seq (.reg false [oo_ 8 (.load true 2 (.t 2)) [],oo_ 9 (.call 132 [(.t 8)]) [0],om_ 5 9 [1,1,0,1]]) (.seq (.reg false [om_ 10 5
 [],oo_ 11 (.bin .neq (.t 10) (.d (.int .i64 0))) [0]]) (.cond (.t 11) (.seq (.reg false [om_ 12 5 [],om_ 4 12 [0,0]]) .ret) .skip))) (.seq (.seq (.reg false [om_ 13 1 [],oo_ 14 (.len (.t 13)) [0],oo_ 15 (.mv (.d (.int
 .i64 0))) []]) (.block 0 (.loop (.seq (.reg false [oo_ 16 (.bin .lss (.t 15) (.t 14)) []]) (.seq (.cond (.t 16) .skip (.exit 0)) (.seq (.block 1 (.seq (.reg false [oo_ 17 (.ix 3 (.t 13) (.t 15)) [],oo_ 18 (.load true 3
 (.t 17)) [0],oo_ 7 (.new 139 [(.int .i64 0),(.int .i64 0),(.bool false)]) [],on_ (.store 3 (.t 7) (.t 18)) [2,1,0,1,2]]) (.seq (.reg false [oo_ 19 (.load true 2 (.t 2)) [],oo_ 20 (.load true 3 (.t 7)) [],oo_ 21 (.call
 161 [(.t 19),(.t 20)]) [0,1],oo_ 22 (.un .not (.t 21)) [2]]) (.cond (.t 22) (.seq (.reg false [oo_ 4 (.mv (.d (.int .i64 2))) []]) .ret) .skip)))) (.reg false [oo_ 23 (.bin .add (.t 15) (.d (.int .i64 1))) [],om_ 15 23
 [0]]))))))) (.seq (.reg false [oo_ 4 (.mv (.d (.int .i64 0))) []]) .ret))))
theorem o_qe : fnOf Tryz.prog o_eu = some (o_ev, [.t 4], 24, false) := by kernel_rfl

abbrev o_ew : FuncId := 120
def o_ex : C := (.seq (.reg false [oo_ 2 (.box 47 (.t 0)) [],oo_ 4 (.new 47 [.nilsl]) [],oo_ 5 (.mv (.d (.int .i64 0))) []]) (.seq (.seq (.reg false [om_ 6 1 [],oo_ 7 (.bin .lss (.t 6) (.d (.int .i64 0))) [0],om_ 8 7 [1],og_ 9 (.mv (.t
 1)) 8 false [2],og_ 10 (.bin .gtr (.t 9) (.d (.int .i64 8192))) 8 false [3,2],oo_ 11 (.pick (.t 8) (.d (.bool true)) (.t 10)) [2,4]]) (.cond (.t 11) (.seq (.reg false [oo_ 12 (.build [.nilsl] []) [],on_ (.store 1 (.t 4)
 (.t 12)) [0,0],oo_ 5 (.mv (.d (.int .i64 2))) [1,0,1]]) .ret) .skip)) (.seq (.reg true [om_ 13 1 [],oo_ 14 (.bin .quo (.t 13) (.d (.int .i64 64))) [0],oo_ 15 (.mksl 28 1 8 [(.int .u64 0)] (.t 14) (.t 14)) [1,1],oo_ 16
 (.fa 0 (.t 2)) [],oo_ 17 (.load false 1 (.t 16)) [3],om_ 18 1 [],oo_ 19 (.bin .rem (.t 18) (.d (.int .i64 64))) [5],oo_ 20 (.call 162 [(.t 17),(.t 19)]) [4,6],oo_ 21 (.app 28 1 8 (.t 15) (.t 20)) [2,7,7],oo_ 22 (.call
 112 [(.t 21)]) [8,8],on_ (.store 1 (.t 4) (.t 22)) [9,9,0,1,2,3,4,5,6,7,8,9],oo_ 5 (.mv (.d (.int .i64 0))) [10,0,1,2,3,4,5,6,7,8,9,10]]) .ret)))
theorem o_qf : fnOf Tryz.prog o_ew = some (o_ex, [.cell 4 true 1, .t 5], 23, false) := by kernel_rfl

abbrev o_ey : FuncId := 121
def o_ez : C := (.seq (.reg false [oo_ 2 (.box 143 (.t 0)) [],oo_ 4 (.mv (.d (.int .i64 0))) []]) (.seq (.seq (.reg false [oo_ 8 (.load true 3 (.t 2)) [],oo_ 9 (.call 133 [(.t 8)]) [0],om_ 5 9 [1,1,0,1]]) (.seq (.reg false [om_ 10 5
 [],oo_ 11 (.bin .neq (.t 10) (.d (.int .i64 0))) [0]]) (.cond (.t 11) (.seq (.reg false [om_ 12 5 [],om_ 4 12 [0,0]]) .ret) .skip))) (.seq (.seq (.reg false [om_ 13 1 [],oo_ 14 (.len (.t 13)) [0],oo_ 15 (.mv (.d (.int
 .i64 0))) []]) (.block 0 (.loop (.seq (.reg false [oo_ 16 (.bin .lss (.t 15) (.t 14)) []]) (.seq (.cond (.t 16) .skip (.exit 0)) (.seq (.block 1 (.seq (.reg false [oo_ 17 (.ix 1 (.t 13) (.t 15)) [],oo_ 18 (.load false 1
 (.t 17)) [0],om_ 7 18 [1,0,1]]) (.seq (.reg false [om_ 19 7 [],oo_ 20 (.bin .lss (.t 19) (.d (.int .i64 0))) [0],om_ 21 20 [1],og_ 22 (.mv (.t 7)) 21 false [2],og_ 23 (.load true 3 (.t 2)) 21 false [2],og_ 24 (.call 129
 [(.t 23)]) 21 false [4,2,2],og_ 25 (.bin .gtr (.t 22) (.t 24)) 21 false [3,5,2],oo_ 26 (.pick (.t 21) (.d (.bool true)) (.t 25)) [2,6]]) (.cond (.t 26) (.seq (.reg false [oo_ 4 (.mv (.d (.int .i64 2))) []]) .ret)
 .skip)))) (.reg false [oo_ 27 (.bin .add (.t 15) (.d (.int .i64 1))) [],om_ 15 27 [0]]))))))) (.seq (.reg false [oo_ 4 (.mv (.d (.int .i64 0))) []]) .ret))))
theorem o_qg : fnOf Tryz.prog o_ey = some (o_ez, [.t 4], 28, false) := by kernel_rfl

abbrev o_f0 : FuncId := 122
def o_f1 : C := (.seq (.reg false [oo_ 1 (.box 143 (.t 0)) [],oo_ 2 (.mv (.d .nilifc)) []]) (.seq (.seq (.reg false [oo_ 3 (.fa 0 (.t 1)) [],oo_ 4 (.load false 1 (.t 3)) [0]]) (.block 0 (.seq (.reg false [oo_ 6 (.bin .eql (.t 4) (.d
 (.int .i64 1))) [],om_ 5 6 [0]]) (.cond (.t 5) (.seq (.reg false [oo_ 7 (.fa 1 (.t 1)) [],oo_ 8 (.load false 1 (.t 7)) [0],oo_ 9 (.ifc 245 (.t 8)) [1],om_ 2 9 [2,0,1,2]]) .ret) (.seq (.reg false [oo_ 11 (.bin .eql (.t
 4) (.d (.int .i64 2))) [],om_ 10 11 [0]]) (.cond (.t 10) (.seq (.reg false [oo_ 12 (.fa 1 (.t 1)) [],oo_ 13 (.load false 1 (.t 12)) [0],oo_ 14 (.ifc 246 (.t 13)) [1],om_ 2 14 [2,0,1,2]]) .ret) (.seq (.reg false [oo_ 16
 (.bin .eql (.t 4) (.d (.int .i64 3))) [],om_ 15 16 [0]]) (.cond (.t 15) (.seq (.reg false [oo_ 17 (.fa 1 (.t 1)) [],oo_ 18 (.load false 1 (.t 17)) [0],oo_ 19 (.ifc 247 (.t 18)) [1],om_ 2 19 [2,0,1,2]]) .ret)
 .skip)))))))) (.seq (.reg false [oo_ 2 (.mv (.d .nilifc)) []]) .ret)))
theorem o_qh : fnOf Tryz.prog o_f0 = some (o_f1, [.t 2], 20, false) := by kernel_rfl

abbrev o_f2 : FuncId := 123
def o_f3 : C := (.seq (.reg false [oo_ 2 (.mv (.d .nilp)) []]) (.seq (.reg true [om_ 3 0 [],oo_ 4 (.chk (.t 3)) [0],oo_ 5 (.fa 0 (.t 4)) [1],oo_ 6 (.load false 1 (.t 5)) [2],oo_ 7 (.call 150 [(.t 6)]) [3],om_ 8 0 [],oo_ 9 (.chk (.t 8))
 [5],oo_ 10 (.fa 1 (.t 9)) [6],oo_ 11 (.load false 1 (.t 10)) [7],om_ 12 0 [],oo_ 13 (.chk (.t 12)) [9],oo_ 14 (.fa 2 (.t 13)) [10],oo_ 15 (.load false 1 (.t 14)) [11],oo_ 16 (.build [.nilsl,(.int .i64 0),(.int .i64 0)]
 [(0,1,(.t 7)),(1,1,(.t 11)),(2,1,(.t 15))]) [4,8,12],oo_ 17 (.box 218 (.t 16)) [13],om_ 2 17 [14,4,0,1,2,3,4,5,6,7,8,9,10,11,12,13,14]]) .ret))
theorem o_qi : fnOf Tryz.prog o_f2 = some (o_f3, [.t 2], 18, false) := by kernel_rfl

abbrev o_f4 : FuncId := 126
def o_6n : C := (.seq (.reg false [oo_ 3 (.box 135 (.t 0)) [],oo_ 5 (.box 139 (.t 2)) [],oo_ 6 (.new 139 [(.int .i64 0),(.int .i64 0),(.bool false)]) [],oo_ 7 (.mv (.d (.int .i64 0))) []]) (.seq (.reg false [om_ 11 1 [],oo_ 12 (.fa 1
 (.t 5)) [],oo_ 13 (.load false 1 (.t 12)) [1],oo_ 14 (.call 164 [(.t 11),(.t 13)]) [0,2],om_ 10 14 [3],oo_ 15 (.ext (.t 10) 0) [4],oo_ 16 (.ext (.t 10) 1) [4],om_ 8 15 [5,3,0,1,2,3,4,5],om_ 9 16 [6,7,0,1,2,3,4,5,6,7]])
 (.seq (.seq (.reg false [om_ 17 8 [],oo_ 18 (.un .not (.t 17)) [0]]) (.cond (.t 18) (.seq (.reg false [oo_ 19 (.load true 3 (.t 5)) [],om_ 20 9 [],on_ (.store 3 (.t 6) (.t 19)) [0,0],om_ 7 20 [1,2,0,1,2]]) .ret) .skip))
 (.seq (.reg false [oo_ 21 (.fa 0 (.t 5)) [],oo_ 22 (.load false 1 (.t 21)) [0],oo_ 23 (.bin .add (.t 22) (.d (.int .i64 1))) [1],oo_ 24 (.fa 0 (.t 5)) [0,1,2],on_ (.store 1 (.t 24) (.t 23)) [3,2,0,1,2]]) (.seq (.reg
 false [oo_ 25 (.load true 2 (.t 3)) [],om_ 26 1 [],oo_ 27 (.load true 3 (.t 5)) [],oo_ 28 (.call 140 [(.t 25),(.t 26),(.t 27)]) [0,1,2],oo_ 29 (.ext (.t 28) 0) [3],oo_ 30 (.ext (.t 28) 1) [3],on_ (.store 3 (.t 6) (.t
 29)) [4,3,0,1,2,3,4,5],om_ 7 30 [5,6,0,1,2,3,4,5,6]]) .ret)))))
theorem o_qj : fnOf Tryz.prog o_f4 = some (o_6n, [.cell 6 true 3, .t 7], 31, false) := by kernel_rfl

abbrev o_6o : FuncId := 127
def o_6p : C := (.seq (.reg false [oo_ 3 (.box 143 (.t 0)) [],oo_ 4 (.box 155 (.t 1)) [],oo_ 6 (.new 155 [(.int .i64 0),(.bool false)]) [],oo_ 7 (.mv (.d (.int .i64 0))) []]) (.seq (.seq (.reg true [oo_ 10 (.fa 0 (.t 4)) [],oo_ 11
 (.load false 1 (.t 10)) [0],oo_ 12 (.load true 3 (.t 3)) [],oo_ 13 (.call 129 [(.t 12)]) [2],oo_ 14 (.bin .eql (.t 11) (.t 13)) [1,3]]) (.cond (.t 14) (.seq (.reg false [oo_ 15 (.fa 1 (.t 4)) [],on_ (.store 1 (.t 15)
 (.d (.bool true))) [0]]) (.seq (.reg false [oo_ 16 (.load true 2 (.t 4)) [],on_ (.store 2 (.t 6) (.t 16)) [0,0],oo_ 7 (.mv (.d (.int .i64 0))) [1,0,1]]) .ret)) .skip)) (.seq (.reg false [om_ 18 2 [],oo_ 19 (.fa 0 (.t
 4)) [],oo_ 20 (.load false 1 (.t 19)) [1],oo_ 21 (.callv (.t 18) [(.t 20)]) [0,2],om_ 17 21 [3],oo_ 22 (.ext (.t 17) 0) [4],oo_ 23 (.ext (.t 17) 1) [4],om_ 8 22 [5,3,0,1,2,3,4,5],om_ 9 23 [6,7,0,1,2,3,4,5,6,7]]) (.seq
 (.seq (.reg false [om_ 24 8 []]) (.cond (.t 24) (.reg false [oo_ 25 (.fa 0 (.t 4)) [],oo_ 26 (.load false 1 (.t 25)) [0],oo_ 27 (.bin .add (.t 26) (.d (.int .i64 1))) [1],oo_ 28 (.fa 0 (.t 4)) [0,1,2],on_ (.store 1 (.t
 28) (.t 27)) [3,2,0,1,2]]) .skip)) (.seq (.reg false [oo_ 29 (.load true 2 (.t 4)) [],om_ 30 9 [],on_ (.store 2 (.t 6) (.t 29)) [0,0],om_ 7 30 [1,2,0,1,2]]) .ret)))))
theorem o_f5 : fnOf Tryz.prog o_6o = some (o_6p, [.cell 6 true 2, .t 7], 31, false) := by kernel_rfl

abbrev o_3r : FuncId := 128
def o_f6 : C := (.seq (.reg false [oo_ 4 (.mv (.d (.bool false))) [],oo_ 5 (.mv (.d (.int .i64 0))) [0]]) (.seq (.reg false [oo_ 6 (.load false 1 (.t 1)) [],oo_ 7 (.load false 1 (.t 2)) [],om_ 8 0 [],oo_ 9 (.inv (.t 6)
 "tallymark/chain.step" [(.t 7),(.t 8)]) [0,1,2],oo_ 10 (.ext (.t 9) 0) [3],oo_ 11 (.ext (.t 9) 1) [3],om_ 4 10 [4,3,0,1,2,3,4,5],om_ 5 11 [5,6,0,1,2,3,4,5,6]]) .ret))
theorem o_qk : fnOf Tryz.prog o_3r = some (o_f6, [.t 4, .t 5], 12, false) := by kernel_rfl

abbrev o_f7 : FuncId := 129
def o_f8 : C := (.seq (.reg false [oo_ 1 (.box 143 (.t 0)) [],oo_ 2 (.mv (.d (.int .i64 0))) []]) (.seq (.seq (.reg false [oo_ 3 (.load true 3 (.t 1)) [],oo_ 4 (.call 133 [(.t 3)]) [0],oo_ 5 (.bin .neq (.t 4) (.d (.int .i64 0))) [1]])
 (.cond (.t 5) (.seq (.reg false [oo_ 2 (.mv (.d (.int .i64 0))) []]) .ret) .skip)) (.seq (.reg false [oo_ 6 (.fa 2 (.t 1)) [],oo_ 7 (.load false 1 (.t 6)) [0],oo_ 8 (.bin .shl (.d (.int .i64 1)) (.t 7)) [1],oo_ 9 (.bin
 .sub (.t 8) (.d (.int .i64 1))) [2],om_ 2 9 [3,0,1,2,3]]) .ret)))
theorem o_ql : fnOf Tryz.prog o_f7 = some (o_f8, [.t 2], 10, false) := by kernel_rfl

abbrev o_f9 : FuncId := 130
def o_fa : C := (.seq (.reg false [oo_ 2 (.mv (.d (.int .i64 0))) []]) (.seq (.seq (.reg false [om_ 3 0 [],oo_ 4 (.bin .geq (.t 3) (.d (.int .u64 4294967296))) [0]]) (.cond (.t 4) (.seq (.reg false [om_ 5 0 [],oo_ 6 (.bin .shr (.t 5)
 (.d (.int .u64 32))) [0],om_ 0 6 [1,0,1]]) (.reg false [oo_ 2 (.mv (.d (.int .i64 32))) []])) .skip)) (.seq (.seq (.reg false [om_ 7 0 [],oo_ 8 (.bin .geq (.t 7) (.d (.int .u64 65536))) [0]]) (.cond (.t 8) (.seq (.reg
 false [om_ 9 0 [],oo_ 10 (.bin .shr (.t 9) (.d (.int .u64 16))) [0],om_ 0 10 [1,0,1]]) (.reg false [om_ 11 2 [],oo_ 12 (.bin .add (.t 11) (.d (.int .i64 16))) [0],om_ 2 12 [1,0,1]])) .skip)) (.seq (.seq (.reg false [om_
 13 0 [],oo_ 14 (.bin .geq (.t 13) (.d (.int .u64 256))) [0]]) (.cond (.t 14) (.seq (.reg false [om_ 15 0 [],oo_ 16 (.bin .shr (.t 15) (.d (.int .u64 8))) [0],om_ 0 16 [1,0,1]]) (.reg false [om_ 17 2 [],oo_ 18 (.bin .add
 (.t 17) (.d (.int .i64 8))) [0],om_ 2 18 [1,0,1]])) .skip)) (.seq (.reg false [om_ 19 2 [],om_ 20 0 [],oo_ 21 (.conv .u8 (.t 20)) [1],⟨some 22,.gstr (.d (.str
 ⟨#[0,1,2,2,3,3,3,3,4,4,4,4,4,4,4,4,5,5,5,5,5,5,5,5,5,5,5,5,5,5,5,5,6,6,6,6,6,6,6,6,6,6,6,6,6,6,6,6,6,6,6,6,6,6,6,6,6,6,6,6,6,6,6,6,7,7,7,7,7,7,7,7,7,7,7,7,7,7,7,7,7,7,7,7,7,7,7,7,7,7,7,7,7,7,7,7,7,7,7,7,7,7,7,7,7,7,7,7,7,7,7,7,7,7,7,7,7,7,7,7,7,7,7,7,7,7,7,7,8,8,8,8,8,8,8,8,8,8,8,8,8,8,8,8,8,8,8,8,8,8,8,8,8,8,8,8,8,8,8,8,8,8,8,8,8,8,8,8,8,8,8,8,8,8,8,8,8,8,8,8,8,8,8,8,8,8,8,8,8,8,8,8,8,8,8,8,8,8,8,8,8,8,8,8,8,8,8,8,8,8,8,8,8,8,8,8,8,8,8,8,8,8,8,8,8,8,8,8,8,8,8,8,8,8,8,8,8,8,8,8,8,8,8,8,8,8,8,8,8,8,8,8,8,8,8,8]⟩)) (.t 21),none,[2]⟩,oo_ 23 (.conv .i64 (.t 22)) [3],oo_ 24 (.bin .add (.t 19) (.t 23)) [0,4],om_ 2 24 [5,0,1,2,3,4,5]]) .ret)))))
theorem o_qm : fnOf Tryz.prog o_f9 = some (o_fa, [.t 2], 25, false) := by kernel_rfl

abbrev o_fb : FuncId := 131
def o_fc : C := (.seq (.reg false [oo_ 2 (.mv (.d (.bool false))) [],oo_ 3 (.mv (.d (.int .i64 0))) [0]]) (.seq (.seq (.reg true [om_ 4 0 [],oo_ 5 (.chk (.t 4)) [0],oo_ 6 (.fa 0 (.t 5)) [1],oo_ 7 (.fa 1 (.t 6)) [2],oo_ 8 (.load false 1
 (.t 7)) [3],om_ 9 8 [4],og_ 10 (.mv (.t 0)) 9 false [5],og_ 11 (.chk (.t 10)) 9 false [6,5],og_ 12 (.fa 0 (.t 11)) 9 false [7,5],og_ 13 (.fa 0 (.t 12)) 9 false [8,5],og_ 14 (.load false 1 (.t 13)) 9 false [9,5],og_ 15
 (.mv (.t 0)) 9 false [5],og_ 16 (.chk (.t 15)) 9 false [11,5],og_ 17 (.fa 2 (.t 16)) 9 false [12,5],og_ 18 (.load false 1 (.t 17)) 9 false [13,5],og_ 19 (.len (.t 18)) 9 false [14,5],og_ 20 (.bin .eql (.t 14) (.t 19)) 9
 false [10,15,5],oo_ 21 (.pick (.t 9) (.d (.bool true)) (.t 20)) [5,16]]) (.cond (.t 21) (.seq (.reg false [om_ 22 0 [],oo_ 23 (.chk (.t 22)) [0,0],oo_ 24 (.fa 0 (.t 23)) [1,0],oo_ 25 (.fa 1 (.t 24)) [2,0],on_ (.store 1
 (.t 25) (.d (.bool true))) [3,0]]) (.seq (.reg false [oo_ 2 (.mv (.d (.bool false))) [],oo_ 3 (.mv (.d (.int .i64 8))) [0,0]]) .ret)) .skip)) (.seq (.reg false [om_ 26 0 [],oo_ 27 (.chk (.t 26)) [0],oo_ 28 (.fa 0 (.t
 27)) [1],oo_ 29 (.fa 0 (.t 28)) [2],oo_ 30 (.load false 1 (.t 29)) [3],oo_ 31 (.bin .add (.t 30) (.d (.int .i64 1))) [4],oo_ 32 (.chk (.t 26)) [0,0,1,2,3,4,5],oo_ 33 (.fa 0 (.t 32)) [6,0,1,2,3,4,5],oo_ 34 (.fa 0 (.t
 33)) [7,0,1,2,3,4,5],on_ (.store 1 (.t 34) (.t 31)) [8,5,0,1,2,3,4,5]]) (.seq (.reg true [om_ 35 0 [],oo_ 36 (.chk (.t 35)) [0],oo_ 37 (.fa 2 (.t 36)) [1],oo_ 38 (.load false 1 (.t 37)) [2],om_ 39 0 [],oo_ 40 (.chk (.t
 39)) [4],oo_ 41 (.fa 0 (.t 40)) [5],oo_ 42 (.fa 0 (.t 41)) [6],oo_ 43 (.load false 1 (.t 42)) [7],oo_ 44 (.bin .sub (.t 43) (.d (.int .i64 1))) [8],oo_ 45 (.ix 1 (.t 38) (.t 44)) [3,9],oo_ 46 (.load false 1 (.t 45))
 [10],om_ 2 46 [11,0,1,2,3,4,5,6,7,8,9,10,11],oo_ 3 (.mv (.d (.int .i64 0))) [12,0,1,2,3,4,5,6,7,8,9,10,11,12]]) .ret))))
theorem o_qn : fnOf Tryz.prog o_fb = some (o_fc, [.t 2, .t 3], 47, false) := by kernel_rfl

abbrev o_fd : FuncId := 132
def o_fe : C := (.seq (.reg false [oo_ 1 (.box 135 (.t 0)) [],oo_ 2 (.mv (.d (.int .i64 0))) []]) (.seq (.seq (.reg false [oo_ 3 (.fa 0 (.t 1)) [],oo_ 4 (.load false 1 (.t 3)) [0],oo_ 5 (.bin .lss (.t 4) (.d (.int .i64 1))) [1],om_ 6 5
 [2],og_ 7 (.fa 0 (.t 1)) 6 false [3],og_ 8 (.load false 1 (.t 7)) 6 false [4,3],og_ 9 (.bin .gtr (.t 8) (.d (.int .i64 1023))) 6 false [5,3],oo_ 10 (.pick (.t 6) (.d (.bool true)) (.t 9)) [3,6],om_ 11 10 [7,3],og_ 12
 (.fa 1 (.t 1)) 11 false [8],og_ 13 (.load false 1 (.t 12)) 11 false [9,8],og_ 14 (.bin .lss (.t 13) (.d (.int .i64 0))) 11 false [10,8],oo_ 15 (.pick (.t 11) (.d (.bool true)) (.t 14)) [8,11],om_ 16 15 [12,8],og_ 17
 (.fa 1 (.t 1)) 16 false [13],og_ 18 (.load false 1 (.t 17)) 16 false [14,13],og_ 19 (.bin .gtr (.t 18) (.d (.int .i64 20))) 16 false [15,13],oo_ 20 (.pick (.t 16) (.d (.bool true)) (.t 19)) [13,16]]) (.cond (.t 20)
 (.seq (.reg false [oo_ 2 (.mv (.d (.int .i64 10))) []]) .ret) .skip)) (.seq (.reg false [oo_ 2 (.mv (.d (.int .i64 0))) []]) .ret)))
theorem o_qo : fnOf Tryz.prog o_fd = some (o_fe, [.t 2], 21, false) := by kernel_rfl

abbrev o_y : FuncId := 133
def o_3s : C := (.seq (.reg false [oo_ 1 (.box 143 (.t 0)) [],oo_ 2 (.mv (.d (.int .i64 0))) []]) (.seq (.reg false [oo_ 4 (.load true 3 (.t 1)) [],oo_ 5 (.call 122 [(.t 4)]) [0],om_ 3 5 [1,1,0,1]]) (.seq (.seq (.reg false [om_ 6 3
 [],oo_ 7 (.inl false (.t 6)) [0],om_ 8 7 [1],og_ 9 (.mv (.t 3)) 8 false [2],og_ 10 (.inv (.t 9) "tallymark/chain.good" []) 8 false [3,2,2],og_ 11 (.un .not (.t 10)) 8 false [4,2],oo_ 12 (.pick (.t 8) (.d (.bool true))
 (.t 11)) [2,5],om_ 13 12 [6,4],og_ 14 (.fa 2 (.t 1)) 13 false [7],og_ 15 (.load false 1 (.t 14)) 13 false [8,7],og_ 16 (.bin .lss (.t 15) (.d (.int .i64 1))) 13 false [9,7],oo_ 17 (.pick (.t 13) (.d (.bool true)) (.t
 16)) [7,10],om_ 18 17 [11,7],og_ 19 (.fa 2 (.t 1)) 18 false [12],og_ 20 (.load false 1 (.t 19)) 18 false [13,12],og_ 21 (.bin .gtr (.t 20) (.d (.int .i64 10))) 18 false [14,12],oo_ 22 (.pick (.t 18) (.d (.bool true))
 (.t 21)) [12,15]]) (.cond (.t 22) (.seq (.reg false [oo_ 2 (.mv (.d (.int .i64 10))) []]) .ret) .skip)) (.seq (.seq (.reg true [oo_ 23 (.fa 0 (.t 1)) [],oo_ 24 (.load false 1 (.t 23)) [0],oo_ 25 (.bin .eql (.t 24) (.d
 (.int .i64 1))) [1],om_ 26 25 [2],og_ 27 (.fa 1 (.t 1)) 26 true [3],og_ 28 (.load false 1 (.t 27)) 26 true [4,3],og_ 29 (.bin .add (.t 28) (.d (.int .i64 1))) 26 true [5,3],og_ 30 (.conv .u64 (.t 29)) 26 true [6,3],og_
 31 (.call 165 [(.t 30)]) 26 true [7,3,3],og_ 32 (.fa 2 (.t 1)) 26 true [3],og_ 33 (.load false 1 (.t 32)) 26 true [9,3],og_ 34 (.bin .shl (.d (.int .i64 1)) (.t 33)) 26 true [10,3],og_ 35 (.bin .sub (.t 34) (.d (.int
 .i64 1))) 26 true [11,3],og_ 36 (.bin .mul (.t 31) (.t 35)) 26 true [8,12,3],og_ 37 (.bin .gtr (.t 36) (.d (.int .i64 8192))) 26 true [13,3],oo_ 38 (.pick (.t 26) (.t 37) (.d (.bool false))) [3,14]]) (.cond (.t 38)
 (.seq (.reg false [oo_ 2 (.mv (.d (.int .i64 10))) []]) .ret) .skip)) (.seq (.reg false [oo_ 2 (.mv (.d (.int .i64 0))) []]) .ret)))))
theorem o_6q : fnOf Tryz.prog o_y = some (o_3s, [.t 2], 39, false) := by kernel_rfl

abbrev o_ff : FuncId := 134
def o_fg : C := (.seq (.reg false [oo_ 2 (.mv (.d (.bool false))) []]) (.seq (.reg false [om_ 3 0 [],oo_ 4 (.bin .geq (.t 3) (.d (.int .i64 0))) [0],om_ 5 4 [1],og_ 6 (.mv (.t 0)) 5 true [2],og_ 7 (.bin .leq (.t 6) (.d (.int .i64 64)))
 5 true [3,2],oo_ 8 (.pick (.t 5) (.t 7) (.d (.bool false))) [2,4],om_ 2 8 [5,2,0,1,2,3,4,5]]) .ret))
theorem o_qp : fnOf Tryz.prog o_ff = some (o_fg, [.t 2], 9, false) := by kernel_rfl

abbrev o_fh : FuncId := 135
def o_fi : C := (.seq (.reg false [oo_ 4 (.mv (.d (.bool false))) []]) (.seq (.reg false [om_ 5 1 [],oo_ 6 (.bin .eql (.t 5) (.d (.int .i64 64))) [0],om_ 7 6 [1],og_ 8 (.mv (.t 0)) 7 false [2],og_ 9 (.mv (.t 1)) 7 false [2],og_ 10
 (.bin .shr (.t 8) (.t 9)) 7 false [3,4,2],og_ 11 (.bin .eql (.t 10) (.d (.int .u64 0))) 7 false [5,2],oo_ 12 (.pick (.t 7) (.d (.bool true)) (.t 11)) [2,6],om_ 4 12 [7,2,0,1,2,3,4,5,6,7]]) .ret))
theorem o_qq : fnOf Tryz.prog o_fh = some (o_fi, [.t 4], 13, false) := by kernel_rfl

abbrev o_6r : FuncId := 136
def o_3t : C := (.seq (.seq (.reg false [om_ 4 0 [],oo_ 5 (.chk (.t 4)) [0],oo_ 6 (.fa 1 (.t 5)) [1],oo_ 7 (.load false 1 (.t 6)) [2],oo_ 8 (.bin .rem (.t 7) (.d (.int .i64 8))) [3],oo_ 9 (.bin .eql (.t 8) (.d (.int .i64 0))) [4]])
 (.cond (.t 9) (.reg false [om_ 10 0 [],om_ 11 0 [],oo_ 12 (.chk (.t 11)) [1],oo_ 13 (.fa 0 (.t 12)) [2],oo_ 14 (.load false 1 (.t 13)) [3],oo_ 15 (.bsl 5 1 1 [(.int .u8 0)] [(0,1,(.d (.int .u8 0)))]) [],oo_ 16 (.app 5 1
 1 (.t 14) (.t 15)) [4,5],oo_ 17 (.chk (.t 10)) [0,0,1,2,3,4,5,6],oo_ 18 (.fa 0 (.t 17)) [7,0,1,2,3,4,5,6],on_ (.store 1 (.t 18) (.t 16)) [8,6,6,0,1,2,3,4,5,6]]) .skip)) (.seq (.seq (.reg false [om_ 19 1 []]) (.cond (.t
 19) (.reg true [om_ 20 0 [],oo_ 21 (.chk (.t 20)) [0],oo_ 22 (.fa 0 (.t 21)) [1],oo_ 23 (.load false 1 (.t 22)) [2],om_ 24 0 [],oo_ 25 (.chk (.t 24)) [4],oo_ 26 (.fa 1 (.t 25)) [5],oo_ 27 (.load false 1 (.t 26)) [6],oo_
 28 (.bin .quo (.t 27) (.d (.int .i64 8))) [7],oo_ 29 (.ix 1 (.t 23) (.t 28)) [3,8],oo_ 30 (.load false 1 (.t 29)) [9],om_ 31 0 [],oo_ 32 (.chk (.t 31)) [11],oo_ 33 (.fa 1 (.t 32)) [12],oo_ 34 (.load false 1 (.t 33))
 [13],oo_ 35 (.bin .rem (.t 34) (.d (.int .i64 8))) [14],oo_ 36 (.bin .sub (.d (.int .i64 7)) (.t 35)) [15],oo_ 37 (.bin .shl (.d (.int .u8 1)) (.t 36)) [16],oo_ 38 (.bin .or (.t 30) (.t 37)) [10,17],oo_ 39 (.ix 1 (.t
 23) (.t 28)) [3,8,0,1,2,3,4,5,6,7,8,9,10,11,12,13,14,15,16,17,18],on_ (.store 1 (.t 39) (.t 38)) [19,18,0,1,2,3,4,5,6,7,8,9,10,11,12,13,14,15,16,17,18]]) .skip)) (.reg false [om_ 40 0 [],oo_ 41 (.chk (.t 40)) [0],oo_ 42
 (.fa 1 (.t 41)) [1],oo_ 43 (.load false 1 (.t 42)) [2],oo_ 44 (.bin .add (.t 43) (.d (.int .i64 1))) [3],oo_ 45 (.chk (.t 40)) [0,0,1,2,3,4],oo_ 46 (.fa 1 (.t 45)) [5,0,1,2,3,4],on_ (.store 1 (.t 46) (.t 44))
 [6,4,0,1,2,3,4]])))
theorem o_6s : fnOf Tryz.prog o_6r = some (o_3t, [], 47, false) := by kernel_rfl

abbrev o_fj : FuncId := 137
def o_fk : C := (.seq (.reg false [oo_ 2 (.mv (.d (.int .u64 0))) []]) (.seq (.reg true [om_ 4 0 [],oo_ 5 (.chk (.t 4)) [0],oo_ 6 (.fa 0 (.t 5)) [1],oo_ 7 (.load false 1 (.t 6)) [2],om_ 8 0 [],oo_ 9 (.chk (.t 8)) [4],oo_ 10 (.fa 1 (.t
 9)) [5],oo_ 11 (.load false 1 (.t 10)) [6],oo_ 12 (.bin .quo (.t 11) (.d (.int .i64 8))) [7],oo_ 13 (.ix 1 (.t 7) (.t 12)) [3,8],oo_ 14 (.load false 1 (.t 13)) [9],om_ 15 0 [],oo_ 16 (.chk (.t 15)) [11],oo_ 17 (.fa 1
 (.t 16)) [12],oo_ 18 (.load false 1 (.t 17)) [13],oo_ 19 (.bin .rem (.t 18) (.d (.int .i64 8))) [14],oo_ 20 (.bin .sub (.d (.int .i64 7)) (.t 19)) [15],oo_ 21 (.bin .shr (.t 14) (.t 20)) [10,16],oo_ 22 (.bin .and (.t
 21) (.d (.int .u8 1))) [17],om_ 3 22 [18,0,1,2,3,4,5,6,7,8,9,10,11,12,13,14,15,16,17,18]]) (.seq (.reg false [om_ 23 0 [],oo_ 24 (.chk (.t 23)) [0],oo_ 25 (.fa 1 (.t 24)) [1],oo_ 26 (.load false 1 (.t 25)) [2],oo_ 27
 (.bin .add (.t 26) (.d (.int .i64 1))) [3],oo_ 28 (.chk (.t 23)) [0,0,1,2,3,4],oo_ 29 (.fa 1 (.t 28)) [5,0,1,2,3,4],on_ (.store 1 (.t 29) (.t 27)) [6,4,0,1,2,3,4]]) (.seq (.reg false [om_ 30 3 [],oo_ 31 (.conv .u64 (.t
 30)) [0],om_ 2 31 [1,0,1]]) .ret))))
theorem o_qr : fnOf Tryz.prog o_fj = some (o_fk, [.t 2], 32, false) := by kernel_rfl

abbrev o_fl : FuncId := 139
def o_fm : C := (.seq (.reg false [oo_ 4 (.box 139 (.t 1)) [],oo_ 6 (.new 139 [(.int .i64 0),(.int .i64 0),(.bool false)]) [],oo_ 7 (.mv (.d (.int .i64 0))) []]) (.seq (.seq (.reg false [om_ 10 2 [],oo_ 11 (.mm true [(.d (.int .i64
 0)),(.t 10)]) [0],oo_ 12 (.mv (.d (.int .i64 0))) []]) (.block 0 (.loop (.seq (.reg false [oo_ 13 (.bin .lss (.t 12) (.t 11)) []]) (.seq (.cond (.t 13) .skip (.exit 0)) (.seq (.block 1 (.seq (.reg false [om_ 15 0 [],oo_
 16 (.fa 0 (.t 4)) [],oo_ 17 (.load false 1 (.t 16)) [1],oo_ 18 (.call 166 [(.t 15),(.t 17)]) [0,2],om_ 14 18 [3],oo_ 19 (.ext (.t 14) 0) [4],oo_ 20 (.ext (.t 14) 1) [4],om_ 8 19 [5,3,0,1,2,3,4,5],om_ 9 20
 [6,7,0,1,2,3,4,5,6,7]]) (.seq (.seq (.reg false [om_ 21 9 [],oo_ 22 (.bin .neq (.t 21) (.d (.int .i64 0))) [0]]) (.cond (.t 22) (.seq (.reg false [oo_ 23 (.load true 3 (.t 4)) [],om_ 24 9 [],on_ (.store 3 (.t 6) (.t
 23)) [0,0],om_ 7 24 [1,2,0,1,2]]) .ret) .skip)) (.seq (.reg false [om_ 25 8 [],oo_ 26 (.fa 0 (.t 4)) [0],on_ (.store 1 (.t 26) (.t 25)) [1,0,0]]) (.reg false [oo_ 27 (.fa 1 (.t 4)) [],oo_ 28 (.load false 1 (.t 27))
 [0],oo_ 29 (.bin .add (.t 28) (.d (.int .i64 1))) [1],oo_ 30 (.fa 1 (.t 4)) [0,1,2],on_ (.store 1 (.t 30) (.t 29)) [3,2,0,1,2]]))))) (.reg false [oo_ 31 (.bin .add (.t 12) (.d (.int .i64 1))) [],om_ 12 31 [0]])))))))
 (.seq (.reg false [oo_ 32 (.load true 3 (.t 4)) [],on_ (.store 3 (.t 6) (.t 32)) [0,0],oo_ 7 (.mv (.d (.int .i64 0))) [1,0,1]]) .ret)))
theorem o_qs : fnOf Tryz.prog o_fl = some (o_fm, [.cell 6 true 3, .t 7], 33, false) := by kernel_rfl

abbrev o_fn : FuncId := 140
def o_fo : C := (.seq (.reg false [oo_ 3 (.box 135 (.t 0)) [],oo_ 5 (.box 139 (.t 2)) [],oo_ 6 (.new 139 [(.int .i64 0),(.int .i64 0),(.bool false)]) [],oo_ 7 (.mv (.d (.int .i64 0))) []]) (.seq (.block 0 (.loop (.seq (.seq (.reg false
 [oo_ 10 (.fa 0 (.t 5)) [],oo_ 11 (.load false 1 (.t 10)) [0],oo_ 12 (.fa 0 (.t 3)) [],oo_ 13 (.load false 1 (.t 12)) [2],oo_ 14 (.bin .gtr (.t 11) (.t 13)) [1,3]]) (.cond (.t 14) .skip (.exit 0))) (.block 1 (.seq (.seq
 (.reg false [oo_ 15 (.fa 1 (.t 5)) [],oo_ 16 (.load false 1 (.t 15)) [0],oo_ 17 (.fa 1 (.t 3)) [],oo_ 18 (.load false 1 (.t 17)) [2],oo_ 19 (.bin .eql (.t 16) (.t 18)) [1,3]]) (.cond (.t 19) (.seq (.reg false [oo_ 20
 (.fa 0 (.t 3)) [],oo_ 21 (.load false 1 (.t 20)) [0],oo_ 22 (.fa 0 (.t 5)) [0,1],on_ (.store 1 (.t 22) (.t 21)) [2,1,0,1],oo_ 23 (.fa 2 (.t 5)) [0,1,2,3],on_ (.store 1 (.t 23) (.d (.bool true))) [4,3,0,1,2,3]]) (.exit
 0)) .skip)) (.seq (.reg false [om_ 25 1 [],oo_ 26 (.load true 3 (.t 5)) [],oo_ 27 (.call 139 [(.t 25),(.t 26),(.d (.int .i64 1))]) [0,1],om_ 24 27 [2],oo_ 28 (.ext (.t 24) 0) [3],oo_ 29 (.ext (.t 24) 1) [3],oo_ 8 (.new
 139 [(.int .i64 0),(.int .i64 0),(.bool false)]) [],on_ (.store 3 (.t 8) (.t 28)) [6,4,2,0,1,2,3,4,6],om_ 9 29 [5,7,0,1,2,3,4,5,6,7]]) (.seq (.seq (.reg false [om_ 30 9 [],oo_ 31 (.bin .neq (.t 30) (.d (.int .i64 0)))
 [0]]) (.cond (.t 31) (.seq (.reg false [oo_ 32 (.load true 3 (.t 5)) [],om_ 33 9 [],on_ (.store 3 (.t 6) (.t 32)) [0,0],om_ 7 33 [1,2,0,1,2]]) .ret) .skip)) (.reg false [oo_ 34 (.load true 3 (.t 8)) [],on_ (.store 3 (.t
 5) (.t 34)) [0,0]])))))))) (.seq (.reg false [oo_ 35 (.load true 3 (.t 5)) [],on_ (.store 3 (.t 6) (.t 35)) [0,0],oo_ 7 (.mv (.d (.int .i64 0))) [1,0,1]]) .ret)))
theorem o_qt : fnOf Tryz.prog o_fn = some (o_fo, [.cell 6 true 3, .t 7], 36, false) := by kernel_rfl

abbrev o_fp : FuncId := 142
def o_6t : C := (.seq (.reg false [oo_ 1 (.box 30 (.t 0)) [],oo_ 2 (.mv (.d (.int .i64 0))) [],oo_ 3 (.mv (.d (.int .i64 0))) [1]]) (.seq (.seq (.reg false [oo_ 4 (.fa 0 (.t 1)) [],oo_ 5 (.load false 1 (.t 4)) [0],oo_ 6 (.bin .eql (.t
 5) (.d (.int .i64 4))) [1]]) (.cond (.t 6) (.seq (.reg true [oo_ 7 (.fa 1 (.t 1)) [],oo_ 8 (.load false 1 (.t 7)) [0],oo_ 9 (.conv .u64 (.t 8)) [1],oo_ 10 (.call 165 [(.t 9)]) [2],oo_ 11 (.fa 2 (.t 1)) [],oo_ 12 (.load
 false 1 (.t 11)) [4],oo_ 13 (.conv .u64 (.t 12)) [5],oo_ 14 (.call 165 [(.t 13)]) [6,3],om_ 2 10 [3,7,0,1,2,3],om_ 3 14 [7,8,0,1,2,3,4,5,6,7,8]]) .ret) .skip)) (.seq (.reg false [oo_ 15 (.fa 2 (.t 1)) [],oo_ 16 (.load
 false 1 (.t 15)) [0],om_ 2 16 [1,0,1],oo_ 3 (.mv (.d (.int .i64 0))) [2,0,1,2]]) .ret)))
theorem o_qu : fnOf Tryz.prog o_fp = some (o_6t, [.t 2, .t 3], 17, false) := by kernel_rfl

abbrev o_fq : FuncId := 143
def o_fr : C := (.seq (.reg false [oo_ 4 (.mv (.d (.int .u64 0))) []]) (.seq (.reg false [om_ 8 0 [],oo_ 9 (.bin .rem (.t 8) (.d (.int .u64 2305843009213693951))) [0],om_ 10 1 [],oo_ 11 (.bin .rem (.t 10) (.d (.int .u64
 2305843009213693951))) [2],oo_ 12 (.call 148 [(.t 9),(.t 11)]) [1,3],om_ 7 12 [4],oo_ 13 (.ext (.t 7) 0) [5],oo_ 14 (.ext (.t 7) 1) [5],om_ 5 13 [6,4,0,1,2,3,4,5,6],om_ 6 14 [7,8,0,1,2,3,4,5,6,7,8]]) (.seq (.reg false
 [om_ 15 6 [],oo_ 16 (.bin .and (.t 15) (.d (.int .u64 2305843009213693951))) [0],om_ 17 5 [],oo_ 18 (.bin .shl (.t 17) (.d (.int .u64 3))) [2],om_ 19 6 [],oo_ 20 (.bin .shr (.t 19) (.d (.int .u64 61))) [4],oo_ 21 (.bin
 .or (.t 18) (.t 20)) [3,5],oo_ 22 (.bin .add (.t 16) (.t 21)) [1,6],oo_ 23 (.bin .rem (.t 22) (.d (.int .u64 2305843009213693951))) [7],om_ 4 23 [8,0,1,2,3,4,5,6,7,8]]) .ret)))
theorem o_qv : fnOf Tryz.prog o_fq = some (o_fr, [.t 4], 24, false) := by kernel_rfl

abbrev o_fs : FuncId := 144
def o_ft : C := (.seq (.reg false [oo_ 3 (.box 30 (.t 0)) [],oo_ 5 (.box 64 (.t 2)) [],oo_ 6 (.mv (.d (.int .i64 0))) []]) (.seq (.seq (.reg false [oo_ 10 (.load true 3 (.t 3)) [],oo_ 11 (.load true 3 (.t 5)) [],oo_ 12 (.bsl 64 3 1
 [(.int .i64 0),(.int .i64 0),(.bool false)] [(0,3,(.t 11))]) [1],oo_ 13 (.call 66 [(.t 10),(.t 12)]) [0,2],om_ 7 13 [3,3,0,1,2,3]]) (.seq (.reg false [om_ 14 7 [],oo_ 15 (.bin .neq (.t 14) (.d (.int .i64 0))) [0]])
 (.cond (.t 15) (.seq (.reg false [om_ 16 7 [],om_ 6 16 [0,0]]) .ret) .skip))) (.seq (.reg false [oo_ 18 (.load true 3 (.t 3)) [],oo_ 19 (.call 142 [(.t 18)]) [0],om_ 17 19 [1],oo_ 20 (.ext (.t 17) 0) [2],oo_ 21 (.ext
 (.t 17) 1) [2],om_ 8 20 [3,1,0,1,2,3],om_ 9 21 [4,5,0,1,2,3,4,5]]) (.seq (.reg false [om_ 22 1 [],oo_ 23 (.fa 0 (.t 5)) [],oo_ 24 (.load false 1 (.t 23)) [1],oo_ 25 (.conv .u64 (.t 24)) [2],om_ 26 8 [],oo_ 27 (.call 87
 [(.t 22),(.t 25),(.t 26)]) [0,3,4]]) (.seq (.reg false [om_ 28 1 [],oo_ 29 (.fa 1 (.t 5)) [],oo_ 30 (.load false 1 (.t 29)) [1],oo_ 31 (.conv .u64 (.t 30)) [2],om_ 32 9 [],oo_ 33 (.call 87 [(.t 28),(.t 31),(.t 32)])
 [0,3,4]]) (.seq (.reg false [om_ 34 1 [],oo_ 35 (.fa 2 (.t 5)) [],oo_ 36 (.load false 1 (.t 35)) [1],oo_ 37 (.call 136 [(.t 34),(.t 36)]) [0,2]]) (.seq (.reg false [oo_ 6 (.mv (.d (.int .i64 0))) []]) .ret)))))))
theorem o_qw : fnOf Tryz.prog o_fs = some (o_ft, [.t 6], 38, false) := by kernel_rfl

abbrev o_fu : FuncId := 145
def o_fv : C := (.seq (.reg false [oo_ 6 (.mv (.d (.int .i64 0))) []]) (.seq (.block 0 (.seq (.reg false [om_ 11 1 [],oo_ 12 (.bin .lss (.t 11) (.d (.int .i64 0))) [0],om_ 13 12 [1],og_ 14 (.mv (.t 1)) 13 false [2],og_ 15 (.mv (.t 0))
 13 false [2],og_ 16 (.chk (.t 15)) 13 false [4,2],og_ 17 (.fa 1 (.t 16)) 13 false [5,2],og_ 18 (.load false 1 (.t 17)) 13 false [6,2],og_ 19 (.bin .geq (.t 14) (.t 18)) 13 false [3,7,2],oo_ 20 (.pick (.t 13) (.d (.bool
 true)) (.t 19)) [2,8],om_ 10 20 [9,2]]) (.cond (.t 10) (.seq (.reg false [oo_ 6 (.mv (.d (.int .i64 1))) []]) .ret) (.seq (.reg false [om_ 22 2 [],om_ 23 0 [],oo_ 24 (.call 147 [(.t 23)]) [1],oo_ 25 (.bin .gtr (.t 22)
 (.t 24)) [0,2],om_ 21 25 [3,2]]) (.cond (.t 21) (.seq (.reg false [oo_ 6 (.mv (.d (.int .i64 2))) []]) .ret) .skip))))) (.seq (.reg false [om_ 27 0 [],om_ 28 1 [],oo_ 29 (.call 146 [(.t 27),(.t 28)]) [0,1],om_ 26 29
 [2],oo_ 30 (.ext (.t 26) 0) [3],oo_ 31 (.ext (.t 26) 1) [3],om_ 7 30 [4,2,0,1,2,3,4],om_ 8 31 [5,6,0,1,2,3,4,5,6]]) (.seq (.reg true [om_ 32 0 [],oo_ 33 (.chk (.t 32)) [0],oo_ 34 (.fa 0 (.t 33)) [1],oo_ 35 (.load false
 1 (.t 34)) [2],om_ 36 7 [],om_ 37 0 [],oo_ 38 (.chk (.t 37)) [5],oo_ 39 (.fa 0 (.t 38)) [6],oo_ 40 (.load false 1 (.t 39)) [7],om_ 41 7 [],oo_ 42 (.ix 1 (.t 40) (.t 41)) [8,9],oo_ 43 (.load false 1 (.t 42)) [10],om_ 44
 0 [],oo_ 45 (.call 147 [(.t 44)]) [12],om_ 46 8 [],oo_ 47 (.bin .shl (.t 45) (.t 46)) [13,14],oo_ 48 (.bin .andNot (.t 43) (.t 47)) [11,15],om_ 49 2 [],om_ 50 8 [],oo_ 51 (.bin .shl (.t 49) (.t 50)) [17,18],oo_ 52 (.bin
 .or (.t 48) (.t 51)) [16,19],oo_ 53 (.ix 1 (.t 35) (.t 36)) [3,4,0,1,2,3,4,5,6,7,8,9,10,11,12,13,14,15,16,17,18,19,20],on_ (.store 1 (.t 53) (.t 52)) [21,20,13,0,1,2,3,4,5,6,7,8,9,10,11,12,13,14,15,16,17,18,19,20]])
 (.seq (.seq (.reg false [om_ 54 8 [],om_ 55 0 [],oo_ 56 (.chk (.t 55)) [1],oo_ 57 (.fa 2 (.t 56)) [2],oo_ 58 (.load false 1 (.t 57)) [3],oo_ 59 (.bin .add (.t 54) (.t 58)) [0,4],oo_ 60 (.bin .gtr (.t 59) (.d (.int .i64
 64))) [5]]) (.cond (.t 60) (.seq (.reg false [om_ 61 8 [],oo_ 62 (.bin .sub (.d (.int .i64 64)) (.t 61)) [0],om_ 9 62 [1,0,1]]) (.reg true [om_ 63 0 [],oo_ 64 (.chk (.t 63)) [0],oo_ 65 (.fa 0 (.t 64)) [1],oo_ 66 (.load
 false 1 (.t 65)) [2],om_ 67 7 [],oo_ 68 (.bin .add (.t 67) (.d (.int .i64 1))) [4],om_ 69 0 [],oo_ 70 (.chk (.t 69)) [6],oo_ 71 (.fa 0 (.t 70)) [7],oo_ 72 (.load false 1 (.t 71)) [8],om_ 73 7 [],oo_ 74 (.bin .add (.t
 73) (.d (.int .i64 1))) [10],oo_ 75 (.ix 1 (.t 72) (.t 74)) [9,11],oo_ 76 (.load false 1 (.t 75)) [12],om_ 77 0 [],oo_ 78 (.call 147 [(.t 77)]) [14],om_ 79 9 [],oo_ 80 (.bin .shr (.t 78) (.t 79)) [15,16],oo_ 81 (.bin
 .andNot (.t 76) (.t 80)) [13,17],om_ 82 2 [],om_ 83 9 [],oo_ 84 (.bin .shr (.t 82) (.t 83)) [19,20],oo_ 85 (.bin .or (.t 81) (.t 84)) [18,21],oo_ 86 (.ix 1 (.t 66) (.t 68))
 [3,5,0,1,2,3,4,5,6,7,8,9,10,11,12,13,14,15,16,17,18,19,20,21,22],on_ (.store 1 (.t 86) (.t 85)) [23,22,15,0,1,2,3,4,5,6,7,8,9,10,11,12,13,14,15,16,17,18,19,20,21,22]])) .skip)) (.seq (.reg false [oo_ 6 (.mv (.d (.int
 .i64 0))) []]) .ret))))))
theorem o_qx : fnOf Tryz.prog o_fu = some (o_fv, [.t 6], 87, false) := by kernel_rfl

abbrev o_fw : FuncId := 146
def o_fx : C := (.seq (.reg false [oo_ 4 (.mv (.d (.int .i64 0))) [],oo_ 5 (.mv (.d (.int .i64 0))) [0]]) (.seq (.reg true [om_ 6 1 [],om_ 7 0 [],oo_ 8 (.chk (.t 7)) [1],oo_ 9 (.fa 2 (.t 8)) [2],oo_ 10 (.load false 1 (.t 9)) [3],oo_ 11
 (.bin .mul (.t 6) (.t 10)) [0,4],oo_ 12 (.bin .quo (.t 11) (.d (.int .i64 64))) [5],om_ 13 1 [],om_ 14 0 [],oo_ 15 (.chk (.t 14)) [8],oo_ 16 (.fa 2 (.t 15)) [9],oo_ 17 (.load false 1 (.t 16)) [10],oo_ 18 (.bin .mul (.t
 13) (.t 17)) [7,11],oo_ 19 (.bin .rem (.t 18) (.d (.int .i64 64))) [12],om_ 4 12 [6,0,1,2,3,4,5,6],om_ 5 19 [13,14,0,1,2,3,4,5,6,7,8,9,10,11,12,13,14]]) .ret))
theorem o_qy : fnOf Tryz.prog o_fw = some (o_fx, [.t 4, .t 5], 20, false) := by kernel_rfl

abbrev o_6u : FuncId := 147
def o_fy : C := (.seq (.reg false [oo_ 2 (.mv (.d (.int .u64 0))) []]) (.seq (.reg false [om_ 3 0 [],oo_ 4 (.chk (.t 3)) [0],oo_ 5 (.fa 2 (.t 4)) [1],oo_ 6 (.load false 1 (.t 5)) [2],oo_ 7 (.bin .shl (.d (.int .u64 1)) (.t 6)) [3],oo_
 8 (.bin .sub (.t 7) (.d (.int .u64 1))) [4],om_ 2 8 [5,0,1,2,3,4,5]]) .ret))
theorem o_qz : fnOf Tryz.prog o_6u = some (o_fy, [.t 2], 9, false) := by kernel_rfl

abbrev o_fz : FuncId := 148
def o_g0 : C := (.seq (.reg false [oo_ 4 (.mv (.d (.int .u64 0))) [],oo_ 5 (.mv (.d (.int .u64 0))) [0]]) (.seq (.reg false [om_ 14 0 [],oo_ 15 (.bin .and (.t 14) (.d (.int .u64 4294967295))) [0],om_ 6 15 [1,0,1]]) (.seq (.reg false
 [om_ 16 0 [],oo_ 17 (.bin .shr (.t 16) (.d (.int .u64 32))) [0],om_ 7 17 [1,0,1]]) (.seq (.reg false [om_ 18 1 [],oo_ 19 (.bin .and (.t 18) (.d (.int .u64 4294967295))) [0],om_ 8 19 [1,0,1]]) (.seq (.reg false [om_ 20 1
 [],oo_ 21 (.bin .shr (.t 20) (.d (.int .u64 32))) [0],om_ 9 21 [1,0,1]]) (.seq (.reg false [om_ 22 6 [],om_ 23 8 [],oo_ 24 (.bin .mul (.t 22) (.t 23)) [0,1],om_ 10 24 [2,0,1,2]]) (.seq (.reg false [om_ 25 7 [],om_ 26 8
 [],oo_ 27 (.bin .mul (.t 25) (.t 26)) [0,1],om_ 28 10 [],oo_ 29 (.bin .shr (.t 28) (.d (.int .u64 32))) [3],oo_ 30 (.bin .add (.t 27) (.t 29)) [2,4],om_ 11 30 [5,0,1,2,3,4,5]]) (.seq (.reg false [om_ 31 11 [],oo_ 32
 (.bin .and (.t 31) (.d (.int .u64 4294967295))) [0],om_ 12 32 [1,0,1]]) (.seq (.reg false [om_ 33 11 [],oo_ 34 (.bin .shr (.t 33) (.d (.int .u64 32))) [0],om_ 13 34 [1,0,1]]) (.seq (.reg false [om_ 35 12 [],om_ 36 6
 [],om_ 37 9 [],oo_ 38 (.bin .mul (.t 36) (.t 37)) [1,2],oo_ 39 (.bin .add (.t 35) (.t 38)) [0,3],om_ 12 39 [4,0,1,2,3,4]]) (.seq (.reg false [om_ 40 7 [],om_ 41 9 [],oo_ 42 (.bin .mul (.t 40) (.t 41)) [0,1],om_ 43 13
 [],oo_ 44 (.bin .add (.t 42) (.t 43)) [2,3],om_ 45 12 [],oo_ 46 (.bin .shr (.t 45) (.d (.int .u64 32))) [5],oo_ 47 (.bin .add (.t 44) (.t 46)) [4,6],om_ 4 47 [7,0,1,2,3,4,5,6,7]]) (.seq (.reg false [om_ 48 0 [],om_ 49 1
 [],oo_ 50 (.bin .mul (.t 48) (.t 49)) [0,1],om_ 5 50 [2,0,1,2]]) .ret))))))))))))
theorem o_r0 : fnOf Tryz.prog o_fz = some (o_g0, [.t 4, .t 5], 51, false) := by kernel_rfl

abbrev o_3u : FuncId := 150
def o_3v : C := (.seq (.reg false [oo_ 2 (.mv (.d .nilsl)) []]) (.seq (.seq (.reg false [om_ 3 0 [],oo_ 4 (.snl false (.t 3)) [0]]) (.cond (.t 4) (.seq (.reg false [oo_ 2 (.mv (.d .nilsl)) []]) .ret) .skip)) (.seq (.reg false [oo_ 5
 (.bsl0) [],om_ 6 0 [],oo_ 7 (.app 28 1 8 (.t 5) (.t 6)) [0,1],om_ 2 7 [2,2,0,1,2]]) .ret)))
theorem o_6v : fnOf Tryz.prog o_3u = some (o_3v, [.t 2], 8, false) := by kernel_rfl

abbrev o_6w : FuncId := 151
def o_6x : C := (.seq (.reg false [oo_ 6 (.mv (.d (.int .u64 0))) [],oo_ 7 (.mv (.d (.int .u64 0))) [0]]) (.seq (.seq (.reg false [om_ 19 2 [],oo_ 20 (.bin .eql (.t 19) (.d (.int .u64 0))) [0]]) (.cond (.t 20) (.reg false [oo_ 21
 (.load false 1 .bad) [],on_ (.bad) [0]]) .skip)) (.seq (.seq (.reg false [om_ 22 2 [],om_ 23 0 [],oo_ 24 (.bin .leq (.t 22) (.t 23)) [0,1]]) (.cond (.t 24) (.reg false [oo_ 25 (.load false 1 .bad) [],on_ (.bad) [0]])
 .skip)) (.seq (.seq (.reg false [om_ 26 0 [],oo_ 27 (.bin .eql (.t 26) (.d (.int .u64 0))) [0]]) (.cond (.t 27) (.seq (.reg true [om_ 28 1 [],om_ 29 2 [],oo_ 30 (.bin .quo (.t 28) (.t 29)) [0,1],om_ 31 1 [],om_ 32 2
 [],oo_ 33 (.bin .rem (.t 31) (.t 32)) [3,4],om_ 6 30 [2,0,1,2],om_ 7 33 [5,6,0,1,2,3,4,5,6]]) .ret) .skip)) (.seq (.reg false [om_ 34 2 [],oo_ 35 (.call 167 [(.t 34)]) [0],oo_ 36 (.conv .u64 (.t 35)) [1],om_ 8 36
 [2,1,0,1,2]]) (.seq (.reg false [om_ 37 2 [],om_ 38 8 [],oo_ 39 (.bin .shl (.t 37) (.t 38)) [0,1],om_ 2 39 [2,0,1,2]]) (.seq (.reg false [om_ 40 2 [],oo_ 41 (.bin .shr (.t 40) (.d (.int .u64 32))) [0],om_ 9 41 [1,0,1]])
 (.seq (.reg false [om_ 42 2 [],oo_ 43 (.bin .and (.t 42) (.d (.int .u64 4294967295))) [0],om_ 10 43 [1,0,1]]) (.seq (.reg false [om_ 44 0 [],om_ 45 8 [],oo_ 46 (.bin .shl (.t 44) (.t 45)) [0,1],om_ 47 1 [],om_ 48 8
 [],oo_ 49 (.bin .sub (.d (.int .u64 64)) (.t 48)) [4],oo_ 50 (.bin .shr (.t 47) (.t 49)) [3,5],oo_ 51 (.bin .or (.t 46) (.t 50)) [2,6],om_ 11 51 [7,0,1,2,3,4,5,6,7]]) (.seq (.reg false [om_ 52 1 [],om_ 53 8 [],oo_ 54
 (.bin .shl (.t 52) (.t 53)) [0,1],om_ 12 54 [2,0,1,2]]) (.seq (.reg false [om_ 55 12 [],oo_ 56 (.bin .shr (.t 55) (.d (.int .u64 32))) [0],om_ 13 56 [1,0,1]]) (.seq (.reg false [om_ 57 12 [],oo_ 58 (.bin .and (.t 57)
 (.d (.int .u64 4294967295))) [0],om_ 14 58 [1,0,1]]) (.seq (.reg false [om_ 59 11 [],om_ 60 9 [],oo_ 61 (.bin .quo (.t 59) (.t 60)) [0,1],om_ 15 61 [2,0,1,2]]) (.seq (.reg false [om_ 62 11 [],om_ 63 15 [],om_ 64 9
 [],oo_ 65 (.bin .mul (.t 63) (.t 64)) [1,2],oo_ 66 (.bin .sub (.t 62) (.t 65)) [0,3],om_ 16 66 [4,0,1,2,3,4]]) (.seq (.block 0 (.loop (.seq (.seq (.reg false [om_ 67 15 [],oo_ 68 (.bin .geq (.t 67) (.d (.int .u64
 4294967296))) [0],om_ 69 68 [1],og_ 70 (.mv (.t 15)) 69 false [2],og_ 71 (.mv (.t 10)) 69 false [2],og_ 72 (.bin .mul (.t 70) (.t 71)) 69 false [3,4,2],og_ 73 (.mv (.t 16)) 69 false [2],og_ 74 (.bin .mul (.d (.int .u64
 4294967296)) (.t 73)) 69 false [6,2],og_ 75 (.mv (.t 13)) 69 false [2],og_ 76 (.bin .add (.t 74) (.t 75)) 69 false [7,8,2],og_ 77 (.bin .gtr (.t 72) (.t 76)) 69 false [5,9,2],oo_ 78 (.pick (.t 69) (.d (.bool true)) (.t
 77)) [2,10]]) (.cond (.t 78) .skip (.exit 0))) (.block 1 (.seq (.reg false [om_ 79 15 [],oo_ 80 (.bin .sub (.t 79) (.d (.int .u64 1))) [0],om_ 15 80 [1,0,1]]) (.seq (.reg false [om_ 81 16 [],om_ 82 9 [],oo_ 83 (.bin
 .add (.t 81) (.t 82)) [0,1],om_ 16 83 [2,0,1,2]]) (.seq (.reg false [om_ 84 16 [],oo_ 85 (.bin .geq (.t 84) (.d (.int .u64 4294967296))) [0]]) (.cond (.t 85) (.exit 0) .skip)))))))) (.seq (.reg false [om_ 86 11 [],oo_
 87 (.bin .mul (.t 86) (.d (.int .u64 4294967296))) [0],om_ 88 13 [],oo_ 89 (.bin .add (.t 87) (.t 88)) [1,2],om_ 90 15 [],om_ 91 2 [],oo_ 92 (.bin .mul (.t 90) (.t 91)) [4,5],oo_ 93 (.bin .sub (.t 89) (.t 92)) [3,6],om_
 17 93 [7,0,1,2,3,4,5,6,7]]) (.seq (.reg false [om_ 94 17 [],om_ 95 9 [],oo_ 96 (.bin .quo (.t 94) (.t 95)) [0,1],om_ 18 96 [2,0,1,2]]) (.seq (.reg false [om_ 97 17 [],om_ 98 18 [],om_ 99 9 [],oo_ 100 (.bin .mul (.t 98)
 (.t 99)) [1,2],oo_ 101 (.bin .sub (.t 97) (.t 100)) [0,3],om_ 16 101 [4,0,1,2,3,4]]) (.seq (.block 2 (.loop (.seq (.seq (.reg false [om_ 102 18 [],oo_ 103 (.bin .geq (.t 102) (.d (.int .u64 4294967296))) [0],om_ 104 103
 [1],og_ 105 (.mv (.t 18)) 104 false [2],og_ 106 (.mv (.t 10)) 104 false [2],og_ 107 (.bin .mul (.t 105) (.t 106)) 104 false [3,4,2],og_ 108 (.mv (.t 16)) 104 false [2],og_ 109 (.bin .mul (.d (.int .u64 4294967296)) (.t
 108)) 104 false [6,2],og_ 110 (.mv (.t 14)) 104 false [2],og_ 111 (.bin .add (.t 109) (.t 110)) 104 false [7,8,2],og_ 112 (.bin .gtr (.t 107) (.t 111)) 104 false [5,9,2],oo_ 113 (.pick (.t 104) (.d (.bool true)) (.t
 112)) [2,10]]) (.cond (.t 113) .skip (.exit 2))) (.block 3 (.seq (.reg false [om_ 114 18 [],oo_ 115 (.bin .sub (.t 114) (.d (.int .u64 1))) [0],om_ 18 115 [1,0,1]]) (.seq (.reg false [om_ 116 16 [],om_ 117 9 [],oo_ 118
 (.bin .add (.t 116) (.t 117)) [0,1],om_ 16 118 [2,0,1,2]]) (.seq (.reg false [om_ 119 16 [],oo_ 120 (.bin .geq (.t 119) (.d (.int .u64 4294967296))) [0]]) (.cond (.t 120) (.exit 2) .skip)))))))) (.seq (.reg false [om_
 121 15 [],oo_ 122 (.bin .mul (.t 121) (.d (.int .u64 4294967296))) [0],om_ 123 18 [],oo_ 124 (.bin .add (.t 122) (.t 123)) [1,2],om_ 125 17 [],oo_ 126 (.bin .mul (.t 125) (.d (.int .u64 4294967296))) [4],om_ 127 14
 [],oo_ 128 (.bin .add (.t 126) (.t 127)) [5,6],om_ 129 18 [],om_ 130 2 [],oo_ 131 (.bin .mul (.t 129) (.t 130)) [8,9],oo_ 132 (.bin .sub (.t 128) (.t 131)) [7,10],om_ 133 8 [],oo_ 134 (.bin .shr (.t 132) (.t 133))
 [11,12],om_ 6 124 [3,0,1,2,3],om_ 7 134 [13,14,0,1,2,3,4,5,6,7,8,9,10,11,12,13,14]]) .ret))))))))))))))))))))
theorem o_g1 : fnOf Tryz.prog o_6w = some (o_6x, [.t 6, .t 7], 135, false) := by kernel_rfl

abbrev o_g2 : FuncId := 152
def o_g3 : C := (.seq (.reg false [⟨some 4,.mv (.d (.str ⟨#[]⟩)),none,[]⟩]) (.seq (.seq (.reg false [om_ 9 1 [],oo_ 10 (.bin .eql (.t 9) (.d (.int .i64 10))) [0]]) (.cond (.t 10) (.seq (.seq (.reg false [om_ 11 0 [],oo_ 12 (.bin .lss
 (.t 11) (.d (.int .u64 100))) [0]]) (.cond (.t 12) (.seq (.reg false [om_ 13 0 [],oo_ 14 (.conv .i64 (.t 13)) [0],oo_ 15 (.call 168 [(.t 14)]) [1],om_ 4 15 [2,2,0,1,2]]) .ret) .skip)) (.seq (.reg false [oo_ 5 (.new 252
 [(.int .u8 0),(.int .u8 0),(.int .u8 0),(.int .u8 0),(.int .u8 0),(.int .u8 0),(.int .u8 0),(.int .u8 0),(.int .u8 0),(.int .u8 0),(.int .u8 0),(.int .u8 0),(.int .u8 0),(.int .u8 0),(.int .u8 0),(.int .u8 0),(.int .u8
 0),(.int .u8 0),(.int .u8 0),(.int .u8 0),(.int .u8 0),(.int .u8 0),(.int .u8 0),(.int .u8 0)]) []]) (.seq (.reg false [om_ 16 0 [],oo_ 17 (.call 169 [(.t 16)]) [0],om_ 6 17 [1,1,0,1]]) (.seq (.reg false [om_ 18 6
 [],oo_ 19 (.bad) [0],om_ 20 0 [],oo_ 21 (.call 170 [(.t 19),(.t 20)]) [1,2]]) (.seq (.reg false [om_ 22 6 [],oo_ 23 (.bad) [0],oo_ 24 (.bad) [1],om_ 4 24 [2,0,1,2]]) .ret))))) .skip)) (.seq (.reg false [om_ 26 0 [],om_
 27 1 [],oo_ 28 (.call 171 [(.d .nilsl),(.t 26),(.t 27),(.d (.bool false)),(.d (.bool false))]) [0,1],om_ 25 28 [2],oo_ 29 (.ext (.t 25) 0) [3],oo_ 30 (.ext (.t 25) 1) [3],om_ 7 29 [4,2,0,1,2,3,4],om_ 8 30
 [5,6,0,1,2,3,4,5,6]]) (.seq (.reg false [om_ 31 8 [],om_ 4 31 [0,0]]) .ret))))
theorem o_r1 : fnOf Tryz.prog o_g2 = some (o_g3, [.t 4], 32, false) := by kernel_rfl

abbrev o_g4 : FuncId := 159
def o_g5 : C := (.seq (.reg false [oo_ 4 (.mv (.d (.int .i64 0))) []]) (.seq (.seq (.reg false [om_ 6 0 [],oo_ 7 (.len (.t 6)) [0],om_ 8 1 [],oo_ 9 (.len (.t 8)) [2],oo_ 10 (.bin .neq (.t 7) (.t 9)) [1,3]]) (.cond (.t 10) (.seq (.seq
 (.reg false [om_ 11 0 [],oo_ 12 (.len (.t 11)) [0],om_ 13 1 [],oo_ 14 (.len (.t 13)) [2],oo_ 15 (.bin .lss (.t 12) (.t 14)) [1,3]]) (.cond (.t 15) (.seq (.reg false [oo_ 4 (.mv (.d (.int .i64 (-1)))) []]) .ret) .skip))
 (.seq (.reg false [oo_ 4 (.mv (.d (.int .i64 1))) []]) .ret)) .skip)) (.seq (.seq (.reg false [om_ 16 0 [],oo_ 17 (.len (.t 16)) [0],oo_ 18 (.bin .sub (.t 17) (.d (.int .i64 1))) [1],om_ 5 18 [2,0,1,2]]) (.block 0
 (.loop (.seq (.seq (.reg false [om_ 19 5 [],oo_ 20 (.bin .geq (.t 19) (.d (.int .i64 0))) [0]]) (.cond (.t 20) .skip (.exit 0))) (.seq (.block 1 (.seq (.seq (.reg true [om_ 23 0 [],om_ 24 5 [],oo_ 25 (.ix 1 (.t 23) (.t
 24)) [0,1],oo_ 26 (.load false 1 (.t 25)) [2],om_ 27 1 [],om_ 28 5 [],oo_ 29 (.ix 1 (.t 27) (.t 28)) [4,5],oo_ 30 (.load false 1 (.t 29)) [6],oo_ 31 (.bin .lss (.t 26) (.t 30)) [3,7]]) (.cond (.t 31) (.seq (.reg false
 [oo_ 4 (.mv (.d (.int .i64 (-1)))) []]) .ret) .skip)) (.seq (.reg true [om_ 32 0 [],om_ 33 5 [],oo_ 34 (.ix 1 (.t 32) (.t 33)) [0,1],oo_ 35 (.load false 1 (.t 34)) [2],om_ 36 1 [],om_ 37 5 [],oo_ 38 (.ix 1 (.t 36) (.t
 37)) [4,5],oo_ 39 (.load false 1 (.t 38)) [6],oo_ 40 (.bin .gtr (.t 35) (.t 39)) [3,7]]) (.cond (.t 40) (.seq (.reg false [oo_ 4 (.mv (.d (.int .i64 1))) []]) .ret) .skip)))) (.reg false [om_ 21 5 [],oo_ 22 (.bin .sub
 (.t 21) (.d (.int .i64 1))) [0],om_ 5 22 [1,0,1]])))))) (.seq (.reg false [oo_ 4 (.mv (.d (.int .i64 0))) []]) .ret))))
theorem o_r2 : fnOf Tryz.prog o_g4 = some (o_g5, [.t 4], 41, false) := by kernel_rfl

abbrev o_g6 : FuncId := 160
def o_g7 : C := (.seq (.reg false [oo_ 4 (.mv (.d .nilsl)) []]) (.seq (.reg false [oo_ 5 (.mv (.d .nilsl)) []]) (.seq (.reg false [oo_ 6 (.mv (.d (.int .i64 0))) []]) (.seq (.seq (.reg false [oo_ 7 (.mv (.d (.int .i64 0))) []]) (.block
 0 (.loop (.seq (.seq (.reg false [om_ 9 7 [],om_ 10 0 [],oo_ 11 (.len (.t 10)) [1],oo_ 12 (.bin .lss (.t 9) (.t 11)) [0,2]]) (.cond (.t 12) .skip (.exit 0))) (.seq (.block 1 (.seq (.reg false [om_ 15 0 [],om_ 16 7
 [],oo_ 17 (.ix 1 (.t 15) (.t 16)) [0,1],oo_ 18 (.load false 1 (.t 17)) [2],om_ 19 6 [],oo_ 20 (.bin .sub (.t 18) (.t 19)) [3,4],om_ 8 20 [5,0,1,2,3,4,5]]) (.seq (.seq (.reg false [om_ 21 7 [],om_ 22 1 [],oo_ 23 (.len
 (.t 22)) [1],oo_ 24 (.bin .lss (.t 21) (.t 23)) [0,2]]) (.cond (.t 24) (.reg false [om_ 25 8 [],om_ 26 1 [],om_ 27 7 [],oo_ 28 (.ix 1 (.t 26) (.t 27)) [1,2],oo_ 29 (.load false 1 (.t 28)) [3],oo_ 30 (.bin .sub (.t 25)
 (.t 29)) [0,4],om_ 8 30 [5,0,1,2,3,4,5]]) .skip)) (.seq (.reg false [oo_ 6 (.mv (.d (.int .i64 0))) []]) (.seq (.seq (.reg false [om_ 31 8 [],oo_ 32 (.bin .lss (.t 31) (.d (.int .i64 0))) [0]]) (.cond (.t 32) (.seq
 (.reg false [om_ 33 8 [],oo_ 34 (.bin .add (.t 33) (.d (.int .i64 10000))) [0],om_ 8 34 [1,0,1]]) (.reg false [oo_ 6 (.mv (.d (.int .i64 1))) []])) .skip)) (.reg false [om_ 35 5 [],om_ 36 8 [],oo_ 37 (.bsl 3 1 1 [(.int
 .i64 0)] [(0,1,(.t 36))]) [1],oo_ 38 (.app 3 1 8 (.t 35) (.t 37)) [0,2],om_ 5 38 [3,3,0,1,2,3]])))))) (.reg false [om_ 13 7 [],oo_ 14 (.bin .add (.t 13) (.d (.int .i64 1))) [0],om_ 7 14 [1,0,1]])))))) (.seq (.reg false
 [om_ 39 5 [],oo_ 40 (.call 116 [(.t 39)]) [0],om_ 4 40 [1,1,0,1]]) .ret)))))
theorem o_r3 : fnOf Tryz.prog o_g6 = some (o_g7, [.t 4], 41, false) := by kernel_rfl

abbrev o_6y : FuncId := 161
def o_6z : C := (.seq (.reg false [oo_ 2 (.box 135 (.t 0)) [],oo_ 3 (.box 139 (.t 1)) [],oo_ 4 (.mv (.d (.bool false))) []]) (.seq (.reg false [oo_ 6 (.fa 0 (.t 3)) [],oo_ 7 (.load false 1 (.t 6)) [0],oo_ 8 (.bin .geq (.t 7) (.d (.int
 .i64 0))) [1],om_ 9 8 [2],og_ 10 (.fa 0 (.t 3)) 9 true [3],og_ 11 (.load false 1 (.t 10)) 9 true [4,3],og_ 12 (.fa 0 (.t 2)) 9 true [3],og_ 13 (.load false 1 (.t 12)) 9 true [6,3],og_ 14 (.bin .leq (.t 11) (.t 13)) 9
 true [5,7,3],oo_ 15 (.pick (.t 9) (.t 14) (.d (.bool false))) [3,8],om_ 16 15 [9,3],og_ 17 (.fa 1 (.t 3)) 16 true [10],og_ 18 (.load false 1 (.t 17)) 16 true [11,10],og_ 19 (.bin .geq (.t 18) (.d (.int .i64 0))) 16 true
 [12,10],oo_ 20 (.pick (.t 16) (.t 19) (.d (.bool false))) [10,13],om_ 21 20 [14,10],og_ 22 (.fa 1 (.t 3)) 21 true [15],og_ 23 (.load false 1 (.t 22)) 21 true [16,15],og_ 24 (.fa 1 (.t 2)) 21 true [15],og_ 25 (.load
 false 1 (.t 24)) 21 true [18,15],og_ 26 (.bin .leq (.t 23) (.t 25)) 21 true [17,19,15],oo_ 27 (.pick (.t 21) (.t 26) (.d (.bool false))) [15,20],om_ 5 27 [21,15,0,1,2,3,4,5,6,7,8,9,10,11,12,13,14,15,16,17,18,19,20,21]])
 (.seq (.reg false [oo_ 28 (.load true 2 (.t 2)) [],oo_ 29 (.call 132 [(.t 28)]) [0],oo_ 30 (.bin .eql (.t 29) (.d (.int .i64 0))) [1],om_ 31 30 [2,1],og_ 32 (.mv (.t 5)) 31 true [3],oo_ 33 (.pick (.t 31) (.t 32) (.d
 (.bool false))) [3,4],om_ 34 33 [5,3],og_ 35 (.fa 2 (.t 3)) 34 true [6],og_ 36 (.load false 1 (.t 35)) 34 true [7,6],og_ 37 (.un .not (.t 36)) 34 true [8,6],og_ 38 (.mv (.t 37)) 34 true [9,6,6],og_ 39 (.fa 1 (.t 3)) 38
 false [10],og_ 40 (.load false 1 (.t 39)) 38 false [11,10],og_ 41 (.fa 1 (.t 2)) 38 false [10],og_ 42 (.load false 1 (.t 41)) 38 false [13,10],og_ 43 (.bin .eql (.t 40) (.t 42)) 38 false [12,14,10],og_ 44 (.pick (.t 38)
 (.d (.bool true)) (.t 43)) 34 true [10,15,6],oo_ 45 (.pick (.t 34) (.t 44) (.d (.bool false))) [6,16],om_ 4 45 [17,10,0,1,2,3,4,5,6,7,8,9,10,11,12,13,14,15,16,17]]) .ret)))
theorem o_g8 : fnOf Tryz.prog o_6y = some (o_6z, [.t 4], 46, false) := by kernel_rfl

abbrev o_70 : FuncId := 162
def o_71 : C := (.seq (.reg false [oo_ 4 (.mv (.d .nilsl)) []]) (.seq (.reg false [om_ 8 0 [],oo_ 9 (.len (.t 8)) [0],oo_ 10 (.bin .add (.t 9) (.d (.int .i64 1))) [1],oo_ 11 (.mksl 28 1 8 [(.int .u64 0)] (.t 10) (.t 10)) [2,2],om_ 5 11
 [3,0,1,2,3]]) (.seq (.seq (.reg false [om_ 12 0 [],oo_ 13 (.len (.t 12)) [0],oo_ 14 (.mv (.d (.int .i64 0))) []]) (.block 0 (.loop (.seq (.reg false [oo_ 15 (.bin .lss (.t 14) (.t 13)) []]) (.seq (.cond (.t 15) .skip
 (.exit 0)) (.seq (.block 1 (.seq (.reg false [om_ 16 14 [],oo_ 17 (.ix 1 (.t 12) (.t 14)) [],oo_ 18 (.load false 1 (.t 17)) [1],om_ 6 16 [0,0,1,2],om_ 7 18 [2,3,0,1,2,3]]) (.seq (.reg true [om_ 19 5 [],om_ 20 6 [],oo_
 21 (.ix 1 (.t 19) (.t 20)) [0,1],oo_ 22 (.load false 1 (.t 21)) [2],om_ 23 7 [],om_ 24 1 [],oo_ 25 (.bin .shl (.t 23) (.t 24)) [4,5],oo_ 26 (.bin .or (.t 22) (.t 25)) [3,6],oo_ 27 (.ix 1 (.t 19) (.t 20))
 [0,1,0,1,2,3,4,5,6,7],on_ (.store 1 (.t 27) (.t 26)) [8,7,0,1,2,3,4,5,6,7]]) (.reg false [om_ 28 5 [],om_ 29 6 [],oo_ 30 (.bin .add (.t 29) (.d (.int .i64 1))) [1],om_ 31 7 [],om_ 32 1 [],oo_ 33 (.bin .sub (.d (.int
 .i64 64)) (.t 32)) [4],oo_ 34 (.bin .shr (.t 31) (.t 33)) [3,5],oo_ 35 (.ix 1 (.t 28) (.t 30)) [0,2,0,1,2,3,4,5,6],on_ (.store 1 (.t 35) (.t 34)) [7,6,0,1,2,3,4,5,6]])))) (.reg false [oo_ 36 (.bin .add (.t 14) (.d (.int
 .i64 1))) [],om_ 14 36 [0]]))))))) (.seq (.reg false [om_ 37 5 [],om_ 4 37 [0,0]]) .ret))))
theorem o_g9 : fnOf Tryz.prog o_70 = some (o_71, [.t 4], 38, false) := by kernel_rfl

abbrev o_ga : FuncId := 164
def o_gb : C := (.seq (.reg false [oo_ 4 (.mv (.d (.bool false))) [],oo_ 5 (.mv (.d (.int .i64 0))) [0]]) (.seq (.seq (.reg false [om_ 8 1 [],oo_ 9 (.mm true [(.d (.int .i64 0)),(.t 8)]) [0],oo_ 10 (.mv (.d (.int .i64 0))) []]) (.block
 0 (.loop (.seq (.reg false [oo_ 11 (.bin .lss (.t 10) (.t 9)) []]) (.seq (.cond (.t 11) .skip (.exit 0)) (.seq (.block 1 (.seq (.reg false [om_ 13 0 [],oo_ 14 (.call 131 [(.t 13)]) [0],om_ 12 14 [1],oo_ 15 (.ext (.t 12)
 0) [2],oo_ 16 (.ext (.t 12) 1) [2],om_ 6 15 [3,1,0,1,2,3],om_ 7 16 [4,5,0,1,2,3,4,5]]) (.seq (.reg false [om_ 17 6 [],oo_ 18 (.un .not (.t 17)) [0]]) (.cond (.t 18) (.seq (.reg false [om_ 19 7 [],oo_ 4 (.mv (.d (.bool
 false))) [],om_ 5 19 [0,1,0,1]]) .ret) .skip)))) (.reg false [oo_ 20 (.bin .add (.t 10) (.d (.int .i64 1))) [],om_ 10 20 [0]]))))))) (.seq (.reg false [oo_ 4 (.mv (.d (.bool true))) [],oo_ 5 (.mv (.d (.int .i64 0)))
 [0,0]]) .ret)))
theorem o_r4 : fnOf Tryz.prog o_ga = some (o_gb, [.t 4, .t 5], 21, false) := by kernel_rfl

abbrev o_72 : FuncId := 165
def o_73 : C := (.seq (.reg false [oo_ 2 (.mv (.d (.int .i64 0))) []]) (.seq (.cond (.d (.bool false)) (.seq (.reg false [om_ 3 0 [],oo_ 4 (.conv .u32 (.t 3)) [0],oo_ 5 (.call 176 [(.t 4)]) [1],om_ 2 5 [2,2,0,1,2]]) .ret) .skip) (.seq
 (.reg false [om_ 6 0 [],oo_ 7 (.call 130 [(.t 6)]) [0],om_ 2 7 [1,1,0,1]]) .ret)))
theorem o_gc : fnOf Tryz.prog o_72 = some (o_73, [.t 2], 8, false) := by kernel_rfl

abbrev o_gd : FuncId := 166
def o_ge : C := (.seq (.reg false [oo_ 4 (.mv (.d (.int .i64 0))) [],oo_ 5 (.mv (.d (.int .i64 0))) [0]]) (.seq (.reg false [oo_ 6 (.mv (.d (.int .i64 0))) []]) (.seq (.seq (.reg false [om_ 9 1 [],oo_ 10 (.mm true [(.d (.int .i64
 0)),(.t 9)]) [0],oo_ 11 (.mv (.d (.int .i64 0))) []]) (.block 0 (.loop (.seq (.reg false [oo_ 12 (.bin .lss (.t 11) (.t 10)) []]) (.seq (.cond (.t 12) .skip (.exit 0)) (.seq (.block 1 (.seq (.reg false [om_ 14 0 [],oo_
 15 (.call 131 [(.t 14)]) [0],om_ 13 15 [1],oo_ 16 (.ext (.t 13) 0) [2],oo_ 17 (.ext (.t 13) 1) [2],om_ 7 16 [3,1,0,1,2,3],om_ 8 17 [4,5,0,1,2,3,4,5]]) (.seq (.seq (.reg false [om_ 18 8 [],oo_ 19 (.bin .neq (.t 18) (.d
 (.int .i64 0))) [0]]) (.cond (.t 19) (.seq (.reg false [om_ 20 8 [],oo_ 4 (.mv (.d (.int .i64 0))) [],om_ 5 20 [0,1,0,1]]) .ret) .skip)) (.seq (.reg false [om_ 21 7 []]) (.cond (.t 21) (.reg false [om_ 22 6 [],oo_ 23
 (.bin .add (.t 22) (.d (.int .i64 1))) [0],om_ 6 23 [1,0,1]]) .skip))))) (.reg false [oo_ 24 (.bin .add (.t 11) (.d (.int .i64 1))) [],om_ 11 24 [0]]))))))) (.seq (.reg false [om_ 25 6 [],om_ 4 25 [0,0],oo_ 5 (.mv (.d
 (.int .i64 0))) [1,0,1]]) .ret))))
theorem o_r5 : fnOf Tryz.prog o_gd = some (o_ge, [.t 4, .t 5], 26, false) := by kernel_rfl

abbrev o_gf : FuncId := 167
def o_gg : C := (.seq (.reg false [oo_ 2 (.mv (.d (.int .i64 0))) []]) (.seq (.reg false [om_ 3 0 [],oo_ 4 (.call 130 [(.t 3)]) [0],oo_ 5 (.bin .sub (.d (.int .i64 64)) (.t 4)) [1],om_ 2 5 [2,1,0,1,2]]) .ret))
theorem o_r6 : fnOf Tryz.prog o_gf = some (o_gg, [.t 2], 6, false) := by kernel_rfl

abbrev o_gh : FuncId := 168
def o_gi : C := (.seq (.reg false [⟨some 2,.mv (.d (.str ⟨#[]⟩)),none,[]⟩]) (.seq (.seq (.reg false [om_ 3 0 [],oo_ 4 (.bin .lss (.t 3) (.d (.int .i64 10))) [0]]) (.cond (.t 4) (.seq (.reg false [om_ 5 0 [],om_ 6 0 [],oo_ 7 (.bin .add
 (.t 6) (.d (.int .i64 1))) [1],⟨some 8,.sstr (.d (.str ⟨#[48,49,50,51,52,53,54,55,56,57,97,98,99,100,101,102,103,104,105,106,107,108,109,110,111,112,113,114,115,116,117,118,119,120,121,122]⟩)) (some (.t 5)) (some (.t
 7)),none,[0,2]⟩,om_ 2 8 [3,0,1,2,3]]) .ret) .skip)) (.seq (.reg false [om_ 9 0 [],oo_ 10 (.bin .mul (.t 9) (.d (.int .i64 2))) [0],om_ 11 0 [],oo_ 12 (.bin .mul (.t 11) (.d (.int .i64 2))) [2],oo_ 13 (.bin .add (.t 12)
 (.d (.int .i64 2))) [3],⟨some 14,.sstr (.d (.str
 ⟨#[48,48,48,49,48,50,48,51,48,52,48,53,48,54,48,55,48,56,48,57,49,48,49,49,49,50,49,51,49,52,49,53,49,54,49,55,49,56,49,57,50,48,50,49,50,50,50,51,50,52,50,53,50,54,50,55,50,56,50,57,51,48,51,49,51,50,51,51,51,52,51,53,51,54,51,55,51,56,51,57,52,48,52,49,52,50,52,51,52,52,52,53,52,54,52,55,52,56,52,57,53,48,53,49,53,50,53,51,53,52,53,53,53,54,53,55,53,56,53,57,54,48,54,49,54,50,54,51,54,52,54,53,54,54,54,55,54,56,54,57,55,48,55,49,55,50,55,51,55,52,55,53,55,54,55,55,55,56,55,57,56,48,56,49,56,50,56,51,56,52,56,53,56,54,56,55,56,56,56,57,57,48,57,49,57,50,57,51,57,52,57,53,57,54,57,55,57,56,57,57]⟩)) (some (.t 10)) (some (.t 13)),none,[1,4]⟩,om_ 2 14 [5,0,1,2,3,4,5]]) .ret)))
theorem o_r7 : fnOf Tryz.prog o_gh = some (o_gi, [.t 2], 15, false) := by kernel_rfl

abbrev o_gj : FuncId := 201
def o_gk : C := (.seq (.reg false [oo_ 1 (.box 47 (.t 0)) [],oo_ 2 (.mv (.d (.int .i64 0))) []]) (.seq (.reg false [oo_ 4 (.fa 0 (.t 1)) [],oo_ 5 (.load false 1 (.t 4)) [0],oo_ 6 (.len (.t 5)) [1],om_ 3 6 [2,0,1,2]]) (.seq (.seq (.reg
 false [om_ 7 3 [],oo_ 8 (.bin .eql (.t 7) (.d (.int .i64 0))) [0]]) (.cond (.t 8) (.seq (.reg false [oo_ 2 (.mv (.d (.int .i64 0))) []]) .ret) .skip)) (.seq (.reg false [om_ 9 3 [],oo_ 10 (.bin .sub (.t 9) (.d (.int
 .i64 1))) [0],oo_ 11 (.bin .mul (.d (.int .i64 64)) (.t 10)) [1],oo_ 12 (.fa 0 (.t 1)) [],oo_ 13 (.load false 1 (.t 12)) [3],om_ 14 3 [],oo_ 15 (.bin .sub (.t 14) (.d (.int .i64 1))) [5],oo_ 16 (.ix 1 (.t 13) (.t 15))
 [4,6],oo_ 17 (.load false 1 (.t 16)) [7],oo_ 18 (.call 130 [(.t 17)]) [8],oo_ 19 (.bin .add (.t 11) (.t 18)) [2,9],om_ 2 19 [10,9,0,1,2,3,4,5,6,7,8,9,10]]) .ret))))
theorem o_r8 : fnOf Tryz.prog o_gj = some (o_gk, [.t 2], 20, false) := by kernel_rfl

abbrev o_74 : FuncId := 202
def o_gl : C := (.seq (.reg false [oo_ 1 (.box 49 (.t 0)) [],oo_ 2 (.mv (.d (.bool false))) []]) (.seq (.reg false [oo_ 3 (.fa 1 (.t 1)) [],oo_ 4 (.load false 1 (.t 3)) [0],om_ 2 4 [1,0,1]]) .ret))
theorem o_r9 : fnOf Tryz.prog o_74 = some (o_gl, [.t 2], 5, false) := by kernel_rfl

abbrev o_75 : FuncId := 206
def o_gm : C := (.seq (.reg false [oo_ 2 (.mv (.d (.bool false))) []]) (.seq (.reg false [om_ 3 0 [],oo_ 4 (.call 211 [(.t 3)]) [0],om_ 2 4 [1,1,0,1]]) .ret))
theorem o_ra : fnOf Tryz.prog o_75 = some (o_gm, [.t 2], 5, false) := by kernel_rfl

abbrev o_76 : FuncId := 208
def o_gn : C := (.seq (.reg false [oo_ 6 (.mv (.d (.bool false))) [],oo_ 7 (.mv (.d (.int .i64 0))) [0]]) (.seq (.reg false [om_ 8 1 [],om_ 9 0 [],om_ 10 2 [],oo_ 11 (.call 212 [(.t 8),(.t 9),(.t 10)]) [0,1,2],oo_ 12 (.ext (.t 11) 0)
 [3],oo_ 13 (.ext (.t 11) 1) [3],om_ 6 12 [4,3,0,1,2,3,4,5],om_ 7 13 [5,6,0,1,2,3,4,5,6]]) .ret))
theorem o_rb : fnOf Tryz.prog o_76 = some (o_gn, [.t 6, .t 7], 14, false) := by kernel_rfl

abbrev o_77 : FuncId := 209
def o_go : C := (.seq (.reg false [oo_ 4 (.new 51 [.nilsl,(.bool false),.nilsl]) [],oo_ 5 (.mv (.d (.int .i64 0))) []]) (.seq (.reg false [om_ 6 0 [],om_ 7 1 [],oo_ 8 (.call 213 [(.t 6),(.t 7)]) [0,1],oo_ 9 (.ext (.t 8) 0) [2],oo_ 10
 (.ext (.t 8) 1) [2],on_ (.store 3 (.t 4) (.t 9)) [3,2,0,1,2,3,4],om_ 5 10 [4,5,0,1,2,3,4,5]]) .ret))
theorem o_rc : fnOf Tryz.prog o_77 = some (o_go, [.cell 4 true 3, .t 5], 11, false) := by kernel_rfl

abbrev o_gp : FuncId := 211
def o_gq : C := (.seq (.reg false [oo_ 2 (.mv (.d (.bool false))) []]) (.seq (.reg false [om_ 3 0 [],oo_ 4 (.bin .geq (.t 3) (.d (.int .i64 1))) [0],om_ 5 4 [1],og_ 6 (.mv (.t 0)) 5 true [2],og_ 7 (.bin .leq (.t 6) (.d (.int .i64
 4096))) 5 true [3,2],oo_ 8 (.pick (.t 5) (.t 7) (.d (.bool false))) [2,4],om_ 2 8 [5,2,0,1,2,3,4,5]]) .ret))
theorem o_rd : fnOf Tryz.prog o_gp = some (o_gq, [.t 2], 9, false) := by kernel_rfl

abbrev o_gr : FuncId := 212
def o_gs : C := (.seq (.reg false [oo_ 6 (.mv (.d (.bool false))) [],oo_ 7 (.mv (.d (.int .i64 0))) [0]]) (.seq (.seq (.reg false [om_ 9 1 [],om_ 10 2 [],oo_ 11 (.bsl 3 1 1 [(.int .i64 0)] [(0,1,(.t 10))]) [1],oo_ 12 (.call 214 [(.t
 9),(.t 11)]) [0,2],om_ 8 12 [3,3,0,1,2,3]]) (.seq (.reg false [om_ 13 8 [],oo_ 14 (.bin .neq (.t 13) (.d (.int .i64 0))) [0]]) (.cond (.t 14) (.seq (.reg false [om_ 15 8 [],oo_ 6 (.mv (.d (.bool false))) [],om_ 7 15
 [0,1,0,1]]) .ret) .skip))) (.seq (.reg false [om_ 16 0 [],om_ 17 1 [],om_ 18 2 [],oo_ 19 (.call 215 [(.t 16),(.t 17),(.t 18)]) [0,1,2],oo_ 20 (.ext (.t 19) 0) [3],oo_ 21 (.ext (.t 19) 1) [3],om_ 6 20
 [4,3,0,1,2,3,4,5],om_ 7 21 [5,6,0,1,2,3,4,5,6]]) .ret)))
theorem o_re : fnOf Tryz.prog o_gr = some (o_gs, [.t 6, .t 7], 22, false) := by kernel_rfl

abbrev o_gt : FuncId := 213
def o_gu : C := (.seq (.reg false [oo_ 4 (.new 51 [.nilsl,(.bool false),.nilsl]) [],oo_ 5 (.mv (.d (.int .i64 0))) []]) (.seq (.seq (.reg false [om_ 11 0 [],om_ 12 1 [],oo_ 13 (.bsl 3 1 1 [(.int .i64 0)] [(0,1,(.t 12))]) [1],oo_ 14
 (.call 214 [(.t 11),(.t 13)]) [0,2],om_ 6 14 [3,3,0,1,2,3]]) (.seq (.reg false [om_ 15 6 [],oo_ 16 (.bin .neq (.t 15) (.d (.int .i64 0))) [0]]) (.cond (.t 16) (.seq (.reg false [oo_ 17 (.build [.nilsl,(.bool
 false),.nilsl] []) [],om_ 18 6 [],on_ (.store 3 (.t 4) (.t 17)) [0,0],om_ 5 18 [1,2,0,1,2]]) .ret) .skip))) (.seq (.reg false [om_ 20 0 [],oo_ 21 (.bin .add (.t 20) (.d (.int .i64 1))) [0],om_ 22 0 [],oo_ 23 (.call 216
 [(.t 21),(.t 22)]) [1,2],om_ 19 23 [3],oo_ 24 (.ext (.t 19) 0) [4],oo_ 25 (.ext (.t 19) 1) [4],oo_ 7 (.new 51 [.nilsl,(.bool false),.nilsl]) [],on_ (.store 3 (.t 7) (.t 24)) [7,5,3,0,1,2,3,4,5,7],om_ 8 25
 [6,8,0,1,2,3,4,5,6,7,8]]) (.seq (.reg false [oo_ 27 (.load true 3 (.t 7)) [],om_ 28 1 [],oo_ 29 (.call 217 [(.t 27),(.t 28)]) [0,1],om_ 26 29 [2],oo_ 30 (.ext (.t 26) 0) [3],oo_ 31 (.ext (.t 26) 1) [3],oo_ 9 (.new 51
 [.nilsl,(.bool false),.nilsl]) [],on_ (.store 3 (.t 9) (.t 30)) [6,4,2,0,1,2,3,4,6],om_ 10 31 [5,7,0,1,2,3,4,5,6,7]]) (.seq (.seq (.reg false [om_ 32 10 [],oo_ 33 (.bin .neq (.t 32) (.d (.int .i64 0))) [0]]) (.cond (.t
 33) (.seq (.reg false [oo_ 34 (.build [.nilsl,(.bool false),.nilsl] []) [],om_ 35 10 [],on_ (.store 3 (.t 4) (.t 34)) [0,0],om_ 5 35 [1,2,0,1,2]]) .ret) .skip)) (.seq (.reg true [om_ 36 0 [],oo_ 37 (.call 19 [(.t 36)])
 [0],oo_ 38 (.load true 3 (.t 9)) [],oo_ 39 (.call 19 [(.d (.int .i64 1))]) [1],oo_ 40 (.call 219 [(.t 38),(.t 39)]) [2,3,3],oo_ 41 (.call 218 [(.t 37),(.t 40)]) [1,4,4],on_ (.store 3 (.t 4) (.t 41))
 [5,5,0,1,2,3,4,5],oo_ 5 (.mv (.d (.int .i64 0))) [6,0,1,2,3,4,5,6]]) .ret))))))
theorem o_rf : fnOf Tryz.prog o_gt = some (o_gu, [.cell 4 true 3, .t 5], 42, false) := by kernel_rfl

abbrev o_78 : FuncId := 214
def o_gv : C := (.seq (.reg false [oo_ 4 (.mv (.d (.int .i64 0))) []]) (.seq (.seq (.reg false [om_ 7 0 [],oo_ 8 (.call 211 [(.t 7)]) [0],oo_ 9 (.un .not (.t 8)) [1]]) (.cond (.t 9) (.seq (.reg false [oo_ 4 (.mv (.d (.int .i64 10)))
 []]) .ret) .skip)) (.seq (.seq (.reg false [om_ 10 1 [],oo_ 11 (.len (.t 10)) [0],oo_ 12 (.mv (.d (.int .i64 0))) []]) (.block 0 (.loop (.seq (.reg false [oo_ 13 (.bin .lss (.t 12) (.t 11)) []]) (.seq (.cond (.t 13)
 .skip (.exit 0)) (.seq (.block 1 (.seq (.reg false [oo_ 14 (.ix 1 (.t 10) (.t 12)) [],oo_ 15 (.load false 1 (.t 14)) [0],om_ 6 15 [1,0,1]]) (.seq (.reg false [om_ 16 6 [],oo_ 17 (.bin .lss (.t 16) (.d (.int .i64 0)))
 [0],om_ 18 17 [1],og_ 19 (.mv (.t 6)) 18 false [2],og_ 20 (.bin .gtr (.t 19) (.d (.int .i64 1023))) 18 false [3,2],oo_ 21 (.pick (.t 18) (.d (.bool true)) (.t 20)) [2,4]]) (.cond (.t 21) (.seq (.reg false [oo_ 4 (.mv
 (.d (.int .i64 2))) []]) .ret) .skip)))) (.reg false [oo_ 22 (.bin .add (.t 12) (.d (.int .i64 1))) [],om_ 12 22 [0]]))))))) (.seq (.reg false [oo_ 4 (.mv (.d (.int .i64 0))) []]) .ret))))
theorem o_rg : fnOf Tryz.prog o_78 = some (o_gv, [.t 4], 23, false) := by kernel_rfl

abbrev o_gw : FuncId := 215
def o_gx : C := (.seq (.reg false [oo_ 6 (.mv (.d (.bool false))) [],oo_ 7 (.mv (.d (.int .i64 0))) [0]]) (.seq (.reg false [om_ 8 0 [],om_ 9 1 [],oo_ 10 (.conv .u64 (.t 9)) [1],oo_ 11 (.bsl 28 1 1 [(.int .u64 0)] [(0,1,(.t 10))])
 [2],oo_ 12 (.call 108 [(.t 11)]) [3],om_ 13 1 [],oo_ 14 (.bin .add (.t 13) (.d (.int .i64 1))) [5],oo_ 15 (.conv .u64 (.t 14)) [6],oo_ 16 (.bsl 28 1 1 [(.int .u64 0)] [(0,1,(.t 15))]) [7],oo_ 17 (.call 108 [(.t 16)])
 [8,4],om_ 18 2 [],oo_ 19 (.call 220 [(.t 8),(.t 12),(.t 17),(.t 18)]) [0,4,9,10,9],oo_ 20 (.ext (.t 19) 0) [11],oo_ 21 (.ext (.t 19) 1) [11],om_ 6 20 [12,11,0,1,2,3,4,5,6,7,8,9,10,11,12,13],om_ 7 21
 [13,14,0,1,2,3,4,5,6,7,8,9,10,11,12,13,14]]) .ret))
theorem o_rh : fnOf Tryz.prog o_gw = some (o_gx, [.t 6, .t 7], 22, false) := by kernel_rfl

abbrev o_gy : FuncId := 216
def o_gz : C := (.seq (.reg false [oo_ 4 (.new 51 [.nilsl,(.bool false),.nilsl]) [],oo_ 5 (.mv (.d (.int .i64 0))) []]) (.seq (.reg false [om_ 6 0 [],oo_ 7 (.call 57 [(.t 6)]) [0],om_ 8 1 [],oo_ 9 (.call 57 [(.t 8)]) [2,1],oo_ 10
 (.call 221 [(.t 7),(.t 9)]) [1,3,3],oo_ 11 (.ext (.t 10) 0) [4],oo_ 12 (.ext (.t 10) 1) [4],on_ (.store 3 (.t 4) (.t 11)) [5,4,0,1,2,3,4,5,6],om_ 5 12 [6,7,0,1,2,3,4,5,6,7]]) .ret))
theorem o_ri : fnOf Tryz.prog o_gy = some (o_gz, [.cell 4 true 3, .t 5], 13, false) := by kernel_rfl

abbrev o_h0 : FuncId := 217
def o_h1 : C := (.seq (.reg false [oo_ 2 (.box 51 (.t 0)) [],oo_ 4 (.new 51 [.nilsl,(.bool false),.nilsl]) [],oo_ 5 (.mv (.d (.int .i64 0))) []]) (.seq (.reg false [oo_ 10 (.fa 0 (.t 2)) [],oo_ 11 (.load true 2 (.t 10)) [0],oo_ 12
 (.call 223 [(.t 11)]) [1],om_ 13 1 [],oo_ 14 (.call 222 [(.t 12),(.t 13)]) [2,3,2],om_ 9 14 [4],oo_ 15 (.ext (.t 9) 0) [5],oo_ 16 (.ext (.t 9) 1) [5],oo_ 6 (.new 47 [.nilsl]) [],on_ (.store 1 (.t 6) (.t 15))
 [8,6,4,0,1,2,3,4,5,6,8],om_ 7 16 [7,9,0,1,2,3,4,5,6,7,8,9]]) (.seq (.seq (.reg false [om_ 17 7 [],oo_ 18 (.bin .neq (.t 17) (.d (.int .i64 0))) [0]]) (.cond (.t 18) (.seq (.reg false [oo_ 19 (.build [.nilsl,(.bool
 false),.nilsl] []) [],om_ 20 7 [],on_ (.store 3 (.t 4) (.t 19)) [0,0],om_ 5 20 [1,2,0,1,2]]) .ret) .skip)) (.seq (.reg false [oo_ 22 (.load true 3 (.t 2)) [],oo_ 23 (.call 60 [(.t 22)]) [0],om_ 24 1 [],oo_ 25 (.call 222
 [(.t 23),(.t 24)]) [1,2,1],om_ 21 25 [3],oo_ 26 (.ext (.t 21) 0) [4],oo_ 27 (.ext (.t 21) 1) [4],oo_ 8 (.new 47 [.nilsl]) [],on_ (.store 1 (.t 8) (.t 26)) [7,5,3,0,1,2,3,4,5,7],om_ 7 27 [6,8,0,1,2,3,4,5,6,7,8]]) (.seq
 (.seq (.reg false [om_ 28 7 [],oo_ 29 (.bin .neq (.t 28) (.d (.int .i64 0))) [0]]) (.cond (.t 29) (.seq (.reg false [oo_ 30 (.build [.nilsl,(.bool false),.nilsl] []) [],om_ 31 7 [],on_ (.store 3 (.t 4) (.t 30))
 [0,0],om_ 5 31 [1,2,0,1,2]]) .ret) .skip)) (.seq (.reg true [oo_ 32 (.fa 0 (.t 2)) [],oo_ 33 (.load true 2 (.t 32)) [0],oo_ 34 (.call 202 [(.t 33)]) [1],om_ 35 34 [2,2],og_ 36 (.mv (.t 1)) 35 true [3],og_ 37 (.bin .and
 (.t 36) (.d (.int .i64 1))) 35 true [4,3],og_ 38 (.bin .eql (.t 37) (.d (.int .i64 1))) 35 true [5,3],oo_ 39 (.pick (.t 35) (.t 38) (.d (.bool false))) [3,6],oo_ 40 (.load true 1 (.t 6)) [],oo_ 41 (.call 106 [(.t
 39),(.t 40)]) [7,8,3],oo_ 42 (.load true 1 (.t 8)) [],oo_ 43 (.call 224 [(.t 41),(.t 42)]) [9,10,9],on_ (.store 3 (.t 4) (.t 43)) [11,11,0,1,2,3,4,5,6,7,8,9,10,11],oo_ 5 (.mv (.d (.int .i64 0)))
 [12,0,1,2,3,4,5,6,7,8,9,10,11,12]]) .ret))))))
theorem o_rj : fnOf Tryz.prog o_h0 = some (o_h1, [.cell 4 true 3, .t 5], 44, false) := by kernel_rfl

abbrev o_h2 : FuncId := 218
def o_h3 : C := (.seq (.reg false [oo_ 2 (.box 51 (.t 0)) [],oo_ 3 (.box 51 (.t 1)) [],oo_ 4 (.new 51 [.nilsl,(.bool false),.nilsl]) []]) (.seq (.reg true [oo_ 5 (.fa 0 (.t 2)) [],oo_ 6 (.load true 2 (.t 5)) [0],oo_ 7 (.fa 0 (.t 3))
 [],oo_ 8 (.load true 2 (.t 7)) [2],oo_ 9 (.call 55 [(.t 6),(.t 8)]) [1,3],oo_ 10 (.load true 3 (.t 2)) [],oo_ 11 (.call 60 [(.t 10)]) [5,4],oo_ 12 (.load true 3 (.t 3)) [],oo_ 13 (.call 60 [(.t 12)]) [7,6],oo_ 14 (.call
 107 [(.t 11),(.t 13)]) [6,8,8],oo_ 15 (.call 224 [(.t 9),(.t 14)]) [4,9,9],on_ (.store 3 (.t 4) (.t 15)) [10,10,0,1,2,3,4,5,6,7,8,9,10]]) .ret))
theorem o_rk : fnOf Tryz.prog o_h2 = some (o_h3, [.cell 4 true 3], 16, false) := by kernel_rfl

abbrev o_h4 : FuncId := 219
def o_h5 : C := (.seq (.reg false [oo_ 2 (.box 51 (.t 0)) [],oo_ 3 (.box 51 (.t 1)) [],oo_ 4 (.new 51 [.nilsl,(.bool false),.nilsl]) []]) (.seq (.reg true [oo_ 5 (.load true 3 (.t 2)) [],oo_ 6 (.fa 0 (.t 3)) [],oo_ 7 (.load true 2 (.t
 6)) [1],oo_ 8 (.call 226 [(.t 7)]) [2],oo_ 9 (.fa 2 (.t 3)) [],oo_ 10 (.load true 1 (.t 9)) [4],oo_ 11 (.build [.nilsl,(.bool false),.nilsl] [(0,2,(.t 8)),(2,1,(.t 10))]) [3,5],oo_ 12 (.call 225 [(.t 5),(.t 11)])
 [0,6,3],on_ (.store 3 (.t 4) (.t 12)) [7,7,0,1,2,3,4,5,6,7]]) .ret))
theorem o_rl : fnOf Tryz.prog o_h4 = some (o_h5, [.cell 4 true 3], 13, false) := by kernel_rfl

abbrev o_h6 : FuncId := 220
def o_h7 : C := (.seq (.reg false [oo_ 5 (.box 47 (.t 1)) [],oo_ 6 (.box 47 (.t 2)) [],oo_ 8 (.mv (.d (.bool false))) [],oo_ 9 (.mv (.d (.int .i64 0))) [2]]) (.seq (.seq (.reg false [oo_ 12 (.load true 1 (.t 5)) [],oo_ 13 (.load true 1
 (.t 6)) [],oo_ 14 (.call 227 [(.t 12),(.t 13)]) [0,1],oo_ 15 (.un .not (.t 14)) [2]]) (.cond (.t 15) (.seq (.reg false [oo_ 8 (.mv (.d (.bool false))) [],oo_ 9 (.mv (.d (.int .i64 2))) [0,0]]) .ret) .skip)) (.seq (.seq
 (.reg false [om_ 16 3 [],oo_ 17 (.mm true [(.d (.int .i64 0)),(.t 16)]) [0],oo_ 18 (.mv (.d (.int .i64 0))) []]) (.block 0 (.loop (.seq (.reg false [oo_ 19 (.bin .lss (.t 18) (.t 17)) []]) (.seq (.cond (.t 19) .skip
 (.exit 0)) (.seq (.block 1 (.seq (.reg false [om_ 21 0 [],oo_ 22 (.load true 1 (.t 5)) [],oo_ 23 (.load true 1 (.t 6)) [],oo_ 24 (.call 228 [(.t 21),(.t 22),(.t 23)]) [0,1,2],om_ 20 24 [3],oo_ 25 (.ext (.t 20) 0)
 [4],oo_ 26 (.ext (.t 20) 1) [4],om_ 10 25 [5,3,0,1,2,3,4,5],om_ 11 26 [6,7,0,1,2,3,4,5,6,7]]) (.seq (.reg false [om_ 27 10 [],oo_ 28 (.un .not (.t 27)) [0]]) (.cond (.t 28) (.seq (.reg false [om_ 29 11 [],oo_ 8 (.mv (.d
 (.bool false))) [],om_ 9 29 [0,1,0,1]]) .ret) .skip)))) (.reg false [oo_ 30 (.bin .add (.t 18) (.d (.int .i64 1))) [],om_ 18 30 [0]]))))))) (.seq (.reg false [oo_ 8 (.mv (.d (.bool true))) [],oo_ 9 (.mv (.d (.int .i64
 0))) [0,0]]) .ret))))
theorem o_rm : fnOf Tryz.prog o_h6 = some (o_h7, [.t 8, .t 9], 31, false) := by kernel_rfl

abbrev o_h8 : FuncId := 221
def o_h9 : C := (.seq (.reg false [oo_ 2 (.box 49 (.t 0)) [],oo_ 3 (.box 49 (.t 1)) [],oo_ 4 (.new 51 [.nilsl,(.bool false),.nilsl]) [],oo_ 5 (.mv (.d (.int .i64 0))) []]) (.seq (.seq (.reg false [oo_ 6 (.load true 2 (.t 3)) [],oo_ 7
 (.call 223 [(.t 6)]) [0],oo_ 8 (.call 109 [(.t 7)]) [1,1]]) (.cond (.t 8) (.seq (.reg false [oo_ 9 (.build [.nilsl,(.bool false),.nilsl] []) [],on_ (.store 3 (.t 4) (.t 9)) [0,0],oo_ 5 (.mv (.d (.int .i64 7))) [1,0,1]])
 .ret) .skip)) (.seq (.reg true [oo_ 10 (.load true 2 (.t 2)) [],oo_ 11 (.call 202 [(.t 10)]) [0],oo_ 12 (.load true 2 (.t 3)) [],oo_ 13 (.call 202 [(.t 12)]) [2,1],oo_ 14 (.beq true (.t 11) (.t 13)) [1,3],oo_ 15 (.load
 true 2 (.t 2)) [],oo_ 16 (.call 223 [(.t 15)]) [5,3],oo_ 17 (.call 106 [(.t 14),(.t 16)]) [4,6,6],oo_ 18 (.load true 2 (.t 3)) [],oo_ 19 (.call 223 [(.t 18)]) [8,7],oo_ 20 (.call 224 [(.t 17),(.t 19)]) [7,9,9],on_
 (.store 3 (.t 4) (.t 20)) [10,10,0,1,2,3,4,5,6,7,8,9,10],oo_ 5 (.mv (.d (.int .i64 0))) [11,0,1,2,3,4,5,6,7,8,9,10,11]]) .ret)))
theorem o_rn : fnOf Tryz.prog o_h8 = some (o_h9, [.cell 4 true 3, .t 5], 21, false) := by kernel_rfl

abbrev o_ha : FuncId := 222
def o_hb : C := (.seq (.reg false [oo_ 2 (.box 47 (.t 0)) [],oo_ 4 (.new 47 [.nilsl]) [],oo_ 5 (.mv (.d (.int .i64 0))) []]) (.seq (.block 0 (.seq (.reg false [om_ 8 1 [],oo_ 9 (.bin .lss (.t 8) (.d (.int .i64 0))) [0],om_ 7 9 [1]])
 (.cond (.t 7) (.seq (.reg false [oo_ 10 (.build [.nilsl] []) [],on_ (.store 1 (.t 4) (.t 10)) [0,0],oo_ 5 (.mv (.d (.int .i64 2))) [1,0,1]]) .ret) (.seq (.reg false [oo_ 12 (.load true 1 (.t 2)) [],oo_ 13 (.call 201
 [(.t 12)]) [0],oo_ 14 (.bin .gtr (.t 13) (.d (.int .i64 1))) [1],om_ 15 14 [2,1],og_ 16 (.mv (.t 1)) 15 true [3],og_ 17 (.load true 1 (.t 2)) 15 true [3],og_ 18 (.call 201 [(.t 17)]) 15 true [5,3,3],og_ 19 (.bin .quo
 (.d (.int .i64 8192)) (.t 18)) 15 true [6,3],og_ 20 (.bin .gtr (.t 16) (.t 19)) 15 true [4,7,3],oo_ 21 (.pick (.t 15) (.t 20) (.d (.bool false))) [3,8],om_ 11 21 [9,6]]) (.cond (.t 11) (.seq (.reg false [oo_ 22 (.build
 [.nilsl] []) [],on_ (.store 1 (.t 4) (.t 22)) [0,0],oo_ 5 (.mv (.d (.int .i64 3))) [1,0,1]]) .ret) .skip))))) (.seq (.reg false [oo_ 23 (.bsl 28 1 1 [(.int .u64 0)] [(0,1,(.d (.int .u64 1)))]) [],oo_ 24 (.call 108 [(.t
 23)]) [0],oo_ 6 (.new 47 [.nilsl]) [],on_ (.store 1 (.t 6) (.t 24)) [2,1,1,0,1,2]]) (.seq (.seq (.reg false [oo_ 25 (.load true 1 (.t 2)) [],oo_ 26 (.call 201 [(.t 25)]) [0],oo_ 27 (.bin .leq (.t 26) (.d (.int .i64 1)))
 [1]]) (.cond (.t 27) (.reg false [om_ 28 1 [],oo_ 29 (.mm false [(.t 28),(.d (.int .i64 1))]) [0],om_ 1 29 [1,0,1]]) .skip)) (.seq (.block 1 (.loop (.seq (.seq (.reg false [om_ 30 1 [],oo_ 31 (.bin .gtr (.t 30) (.d
 (.int .i64 0))) [0]]) (.cond (.t 31) .skip (.exit 1))) (.seq (.block 2 (.seq (.seq (.reg false [om_ 34 1 [],oo_ 35 (.bin .and (.t 34) (.d (.int .i64 1))) [0],oo_ 36 (.bin .eql (.t 35) (.d (.int .i64 1))) [1]]) (.cond
 (.t 36) (.reg false [oo_ 37 (.load true 1 (.t 6)) [],oo_ 38 (.load true 1 (.t 2)) [],oo_ 39 (.call 107 [(.t 37),(.t 38)]) [0,1],on_ (.store 1 (.t 6) (.t 39)) [2,2,0,1,2]]) .skip)) (.reg false [oo_ 40 (.load true 1 (.t
 2)) [],oo_ 41 (.load true 1 (.t 2)) [],oo_ 42 (.call 107 [(.t 40),(.t 41)]) [0,1],on_ (.store 1 (.t 2) (.t 42)) [2,2,0,1,2]]))) (.reg false [om_ 32 1 [],oo_ 33 (.bin .shr (.t 32) (.d (.int .u64 1))) [0],om_ 1 33
 [1,0,1]]))))) (.seq (.reg false [oo_ 43 (.load true 1 (.t 6)) [],on_ (.store 1 (.t 4) (.t 43)) [0,0],oo_ 5 (.mv (.d (.int .i64 0))) [1,0,1]]) .ret))))))
theorem o_ro : fnOf Tryz.prog o_ha = some (o_hb, [.cell 4 true 1, .t 5], 44, false) := by kernel_rfl

abbrev o_79 : FuncId := 223
def o_hc : C := (.seq (.reg false [oo_ 1 (.box 49 (.t 0)) [],oo_ 2 (.new 47 [.nilsl]) []]) (.seq (.reg false [oo_ 3 (.fa 0 (.t 1)) [],oo_ 4 (.load true 1 (.t 3)) [0],on_ (.store 1 (.t 2) (.t 4)) [1,0,1]]) .ret))
theorem o_rp : fnOf Tryz.prog o_79 = some (o_hc, [.cell 2 true 1], 5, false) := by kernel_rfl

abbrev o_hd : FuncId := 224
def o_he : C := (.seq (.reg false [oo_ 2 (.box 49 (.t 0)) [],oo_ 3 (.box 47 (.t 1)) [],oo_ 4 (.new 51 [.nilsl,(.bool false),.nilsl]) []]) (.seq (.reg true [oo_ 14 (.load true 2 (.t 2)) [],oo_ 15 (.call 223 [(.t 14)]) [0],oo_ 16 (.load
 true 1 (.t 3)) [],oo_ 17 (.call 229 [(.t 15),(.t 16)]) [1,2,1],oo_ 5 (.new 47 [.nilsl]) [],on_ (.store 1 (.t 5) (.t 17)) [4,3,3,0,1,2,3,4]]) (.seq (.reg true [oo_ 19 (.load true 2 (.t 2)) [],oo_ 20 (.call 223 [(.t 19)])
 [0],oo_ 21 (.load true 1 (.t 5)) [],oo_ 22 (.call 230 [(.t 20),(.t 21)]) [1,2,1],om_ 18 22 [3],oo_ 23 (.ext (.t 18) 0) [4],oo_ 24 (.ext (.t 18) 1) [4],oo_ 25 (.ext (.t 18) 2) [4],oo_ 6 (.new 47 [.nilsl]) [],oo_ 7 (.new
 47 [.nilsl]) [],on_ (.store 1 (.t 6) (.t 23)) [8,5,3,0,1,2,3,4,5,8,9],on_ (.store 1 (.t 7) (.t 24)) [9,6,10,0,1,2,3,4,5,6,8,9,10],om_ 8 25 [7,11,0,1,2,3,4,5,6,7,8,9,10,11]]) (.seq (.reg false [oo_ 27 (.load true 1 (.t
 3)) [],oo_ 28 (.load true 1 (.t 5)) [],oo_ 29 (.call 230 [(.t 27),(.t 28)]) [0,1],om_ 26 29 [2],oo_ 30 (.ext (.t 26) 0) [3],oo_ 31 (.ext (.t 26) 1) [3],oo_ 32 (.ext (.t 26) 2) [3],oo_ 9 (.new 47 [.nilsl]) [],oo_ 10
 (.new 47 [.nilsl]) [],on_ (.store 1 (.t 9) (.t 30)) [7,4,2,0,1,2,3,4,7,8],on_ (.store 1 (.t 10) (.t 31)) [8,5,9,0,1,2,3,4,5,7,8,9],om_ 11 32 [6,10,0,1,2,3,4,5,6,7,8,9,10]]) (.seq (.reg true [oo_ 34 (.load true 1 (.t 9))
 [],oo_ 35 (.bsl 28 1 1 [(.int .u64 0)] [(0,1,(.d (.int .u64 1)))]) [],oo_ 36 (.call 108 [(.t 35)]) [1],oo_ 37 (.call 231 [(.t 34),(.t 36)]) [0,2,2],om_ 33 37 [3],oo_ 38 (.ext (.t 33) 0) [4],oo_ 39 (.ext (.t 33) 1)
 [4],oo_ 12 (.new 47 [.nilsl]) [],on_ (.store 1 (.t 12) (.t 38)) [7,5,3,0,1,2,3,4,5,7],om_ 13 39 [6,8,0,1,2,3,4,5,6,7,8]]) (.seq (.reg true [oo_ 40 (.load true 2 (.t 2)) [],oo_ 41 (.call 202 [(.t 40)]) [0],oo_ 42 (.load
 true 1 (.t 6)) [],oo_ 43 (.call 106 [(.t 41),(.t 42)]) [1,2,1],oo_ 44 (.load true 1 (.t 12)) [],oo_ 45 (.build [.nilsl,(.bool false),.nilsl] [(0,2,(.t 43)),(2,1,(.t 44))]) [3,4],on_ (.store 3 (.t 4) (.t 45))
 [5,3,0,1,2,3,4,5]]) .ret))))))
theorem o_rq : fnOf Tryz.prog o_hd = some (o_he, [.cell 4 true 3], 46, false) := by kernel_rfl

abbrev o_hf : FuncId := 225
def o_hg : C := (.seq (.reg false [oo_ 2 (.box 51 (.t 0)) [],oo_ 3 (.box 51 (.t 1)) [],oo_ 4 (.new 51 [.nilsl,(.bool false),.nilsl]) []]) (.seq (.reg true [oo_ 5 (.fa 0 (.t 2)) [],oo_ 6 (.load true 2 (.t 5)) [0],oo_ 7 (.load true 3 (.t
 3)) [],oo_ 8 (.call 56 [(.t 7)]) [2],oo_ 9 (.call 55 [(.t 6),(.t 8)]) [1,3,3],oo_ 10 (.fa 0 (.t 3)) [],oo_ 11 (.load true 2 (.t 10)) [5],oo_ 12 (.load true 3 (.t 2)) [],oo_ 13 (.call 56 [(.t 12)]) [7,4],oo_ 14 (.call 55
 [(.t 11),(.t 13)]) [6,8,8],oo_ 15 (.call 232 [(.t 9),(.t 14)]) [4,9,9],oo_ 16 (.load true 3 (.t 2)) [],oo_ 17 (.call 60 [(.t 16)]) [11,10],oo_ 18 (.load true 3 (.t 3)) [],oo_ 19 (.call 60 [(.t 18)]) [13,12],oo_ 20
 (.call 107 [(.t 17),(.t 19)]) [12,14,14],oo_ 21 (.call 224 [(.t 15),(.t 20)]) [10,15,15],on_ (.store 3 (.t 4) (.t 21)) [16,16,0,1,2,3,4,5,6,7,8,9,10,11,12,13,14,15,16]]) .ret))
theorem o_rr : fnOf Tryz.prog o_hf = some (o_hg, [.cell 4 true 3], 22, false) := by kernel_rfl

abbrev o_hh : FuncId := 226
def o_hi : C := (.seq (.reg false [oo_ 1 (.box 49 (.t 0)) [],oo_ 2 (.new 49 [.nilsl,(.bool false)]) []]) (.seq (.reg false [oo_ 3 (.fa 1 (.t 1)) [],oo_ 4 (.load false 1 (.t 3)) [0],oo_ 5 (.un .not (.t 4)) [1],oo_ 6 (.fa 0 (.t 1))
 [],oo_ 7 (.load true 1 (.t 6)) [3],oo_ 8 (.call 106 [(.t 5),(.t 7)]) [2,4],on_ (.store 2 (.t 2) (.t 8)) [5,5,0,1,2,3,4,5]]) .ret))
theorem o_rs : fnOf Tryz.prog o_hh = some (o_hi, [.cell 2 true 2], 9, false) := by kernel_rfl

abbrev o_hj : FuncId := 227
def o_hk : C := (.seq (.reg false [oo_ 2 (.box 47 (.t 0)) [],oo_ 3 (.box 47 (.t 1)) [],oo_ 4 (.mv (.d (.bool false))) []]) (.seq (.reg false [oo_ 5 (.load true 1 (.t 3)) [],oo_ 6 (.call 109 [(.t 5)]) [0],oo_ 7 (.un .not (.t 6)) [1],om_
 8 7 [2,1],og_ 9 (.load true 1 (.t 2)) 8 true [3],og_ 10 (.load true 1 (.t 3)) 8 true [3],og_ 11 (.call 105 [(.t 9),(.t 10)]) 8 true [4,5,3,3],og_ 12 (.bin .leq (.t 11) (.d (.int .i64 0))) 8 true [6,3],oo_ 13 (.pick (.t
 8) (.t 12) (.d (.bool false))) [3,7],om_ 4 13 [8,6,0,1,2,3,4,5,6,7,8]]) .ret))
theorem o_rt : fnOf Tryz.prog o_hj = some (o_hk, [.t 4], 14, false) := by kernel_rfl

abbrev o_hl : FuncId := 228
def o_hm : C := (.seq (.reg false [oo_ 4 (.box 47 (.t 1)) [],oo_ 5 (.box 47 (.t 2)) [],oo_ 6 (.mv (.d (.bool false))) [],oo_ 7 (.mv (.d (.int .i64 0))) [2]]) (.seq (.block 0 (.seq (.reg false [oo_ 15 (.load true 1 (.t 4)) [],oo_ 16
 (.load true 1 (.t 5)) [],oo_ 17 (.call 227 [(.t 15),(.t 16)]) [0,1],oo_ 18 (.un .not (.t 17)) [2],om_ 14 18 [3,2]]) (.cond (.t 14) (.seq (.reg false [oo_ 6 (.mv (.d (.bool false))) [],oo_ 7 (.mv (.d (.int .i64 2)))
 [0,0]]) .ret) (.seq (.reg false [oo_ 20 (.load true 1 (.t 4)) [],oo_ 21 (.call 109 [(.t 20)]) [0],om_ 19 21 [1,1]]) (.cond (.t 19) (.seq (.reg false [oo_ 6 (.mv (.d (.bool false))) [],oo_ 7 (.mv (.d (.int .i64 0)))
 [0,0]]) .ret) .skip))))) (.seq (.seq (.reg false [oo_ 22 (.load true 1 (.t 4)) [],oo_ 8 (.new 47 [.nilsl]) [],on_ (.store 1 (.t 8) (.t 22)) [1,0,0,1]]) (.block 1 (.loop (.seq (.seq (.reg false [oo_ 23 (.load true 1 (.t
 8)) [],oo_ 24 (.load true 1 (.t 5)) [],oo_ 25 (.call 105 [(.t 23),(.t 24)]) [0,1],oo_ 26 (.bin .lss (.t 25) (.d (.int .i64 0))) [2]]) (.cond (.t 26) .skip (.exit 1))) (.seq (.block 2 (.seq (.reg false [om_ 28 0 [],oo_
 29 (.call 131 [(.t 28)]) [0],om_ 27 29 [1],oo_ 30 (.ext (.t 27) 0) [2],oo_ 31 (.ext (.t 27) 1) [2],om_ 9 30 [3,1,0,1,2,3],om_ 10 31 [4,5,0,1,2,3,4,5]]) (.seq (.seq (.reg false [om_ 32 10 [],oo_ 33 (.bin .neq (.t 32) (.d
 (.int .i64 0))) [0]]) (.cond (.t 33) (.seq (.reg false [om_ 34 10 [],oo_ 6 (.mv (.d (.bool false))) [],om_ 7 34 [0,1,0,1]]) .ret) .skip)) (.seq (.reg false [oo_ 35 (.load true 1 (.t 8)) [],oo_ 36 (.load true 1 (.t 8))
 [],oo_ 37 (.call 110 [(.t 35),(.t 36)]) [0,1],on_ (.store 1 (.t 8) (.t 37)) [2,2,0,1,2]]) (.seq (.reg false [oo_ 39 (.load true 1 (.t 8)) [],oo_ 40 (.load true 1 (.t 5)) [],oo_ 41 (.call 231 [(.t 39),(.t 40)]) [0,1],om_
 38 41 [2],oo_ 42 (.ext (.t 38) 0) [3],oo_ 43 (.ext (.t 38) 1) [3],oo_ 11 (.new 47 [.nilsl]) [],on_ (.store 1 (.t 11) (.t 42)) [6,4,2,0,1,2,3,4,6],om_ 12 43 [5,7,0,1,2,3,4,5,6,7]]) (.seq (.reg false [om_ 44 12 [],oo_ 45
 (.bin .eql (.t 44) (.d (.int .i64 0))) [0],om_ 13 45 [1,0,1]]) (.seq (.seq (.reg false [om_ 46 13 []]) (.cond (.t 46) (.reg false [oo_ 47 (.load true 1 (.t 11)) [],on_ (.store 1 (.t 8) (.t 47)) [0,0]]) .skip)) (.seq
 (.reg false [om_ 48 9 [],om_ 49 13 [],oo_ 50 (.beq true (.t 48) (.t 49)) [0,1],om_ 51 50 [2],og_ 52 (.load true 1 (.t 8)) 51 false [3],og_ 53 (.call 109 [(.t 52)]) 51 false [4,3,3],oo_ 54 (.pick (.t 51) (.d (.bool
 true)) (.t 53)) [3,5]]) (.cond (.t 54) (.seq (.reg false [om_ 55 13 [],om_ 56 55 [0],og_ 57 (.mv (.t 9)) 56 true [1],og_ 58 (.un .not (.t 57)) 56 true [2,1],oo_ 59 (.pick (.t 56) (.t 58) (.d (.bool false))) [1,3],om_ 6
 59 [4,1,0,1,2,3,4],oo_ 7 (.mv (.d (.int .i64 0))) [5,0,1,2,3,4,5]]) .ret) .skip))))))))) (.seq (.reg false [oo_ 60 (.load true 1 (.t 8)) []]) (.reg false [oo_ 8 (.new 47 [.nilsl]) [],on_ (.store 1 (.t 8) (.t 60))
 [0,0]]))))))) (.seq (.reg false [oo_ 6 (.mv (.d (.bool true))) [],oo_ 7 (.mv (.d (.int .i64 0))) [0,0]]) .ret))))
theorem o_ru : fnOf Tryz.prog o_hl = some (o_hm, [.t 6, .t 7], 61, false) := by kernel_rfl

abbrev o_hn : FuncId := 229
def o_ho : C := (.seq (.reg false [oo_ 2 (.box 47 (.t 0)) [],oo_ 3 (.box 47 (.t 1)) [],oo_ 4 (.new 47 [.nilsl]) []]) (.seq (.block 0 (.loop (.seq (.seq (.reg false [oo_ 8 (.load true 1 (.t 3)) [],oo_ 9 (.call 109 [(.t 8)]) [0],oo_ 10
 (.un .not (.t 9)) [1]]) (.cond (.t 10) .skip (.exit 0))) (.block 1 (.seq (.reg false [oo_ 12 (.load true 1 (.t 2)) [],oo_ 13 (.load true 1 (.t 3)) [],oo_ 14 (.call 230 [(.t 12),(.t 13)]) [0,1],om_ 11 14 [2],oo_ 15 (.ext
 (.t 11) 0) [3],oo_ 16 (.ext (.t 11) 1) [3],oo_ 17 (.ext (.t 11) 2) [3],oo_ 5 (.new 47 [.nilsl]) [],oo_ 6 (.new 47 [.nilsl]) [],on_ (.store 1 (.t 5) (.t 15)) [7,4,2,0,1,2,3,4,7,8],on_ (.store 1 (.t 6) (.t 16))
 [8,5,9,0,1,2,3,4,5,7,8,9],om_ 7 17 [6,10,0,1,2,3,4,5,6,7,8,9,10]]) (.reg true [oo_ 18 (.load true 1 (.t 3)) [],oo_ 19 (.load true 1 (.t 6)) [],on_ (.store 1 (.t 2) (.t 18)) [0,0],on_ (.store 1 (.t 3) (.t 19))
 [1,2,0,1,2]])))))) (.seq (.reg false [oo_ 20 (.fa 0 (.t 2)) [],oo_ 21 (.load false 1 (.t 20)) [0],oo_ 22 (.call 108 [(.t 21)]) [1],on_ (.store 1 (.t 4) (.t 22)) [2,2,0,1,2]]) .ret)))
theorem o_rv : fnOf Tryz.prog o_hn = some (o_ho, [.cell 4 true 1], 23, false) := by kernel_rfl

abbrev o_7a : FuncId := 230
def o_7b : C := (.seq (.reg false [oo_ 2 (.box 47 (.t 0)) [],oo_ 3 (.box 47 (.t 1)) [],oo_ 4 (.new 47 [.nilsl]) [],oo_ 5 (.new 47 [.nilsl]) [],oo_ 6 (.mv (.d (.int .i64 0))) []]) (.seq (.block 0 (.seq (.reg false [oo_ 10 (.load true 1
 (.t 3)) [],oo_ 11 (.call 109 [(.t 10)]) [0],om_ 9 11 [1,1]]) (.cond (.t 9) (.seq (.reg false [oo_ 12 (.build [.nilsl] []) [],oo_ 13 (.build [.nilsl] []) [],on_ (.store 1 (.t 4) (.t 12)) [0,0],on_ (.store 1 (.t 5) (.t
 13)) [1,2,0,1,2],oo_ 6 (.mv (.d (.int .i64 7))) [3,0,1,2,3]]) .ret) (.seq (.reg false [oo_ 15 (.load true 1 (.t 2)) [],oo_ 16 (.load true 1 (.t 3)) [],oo_ 17 (.call 105 [(.t 15),(.t 16)]) [0,1],oo_ 18 (.bin .lss (.t 17)
 (.d (.int .i64 0))) [2],om_ 14 18 [3,2]]) (.cond (.t 14) (.seq (.reg false [oo_ 19 (.build [.nilsl] []) [],oo_ 20 (.fa 0 (.t 2)) [],oo_ 21 (.load false 1 (.t 20)) [1],oo_ 22 (.call 108 [(.t 21)]) [2],on_ (.store 1 (.t
 4) (.t 19)) [0,3,0],on_ (.store 1 (.t 5) (.t 22)) [3,4,0,1,2,3,4],oo_ 6 (.mv (.d (.int .i64 0))) [5,0,1,2,3,4,5]]) .ret) (.seq (.reg false [oo_ 24 (.fa 0 (.t 3)) [],oo_ 25 (.load false 1 (.t 24)) [0],oo_ 26 (.len (.t
 25)) [1],oo_ 27 (.bin .eql (.t 26) (.d (.int .i64 1))) [2],om_ 23 27 [3]]) (.cond (.t 23) (.seq (.reg true [oo_ 29 (.fa 0 (.t 2)) [],oo_ 30 (.load false 1 (.t 29)) [0],oo_ 31 (.fa 0 (.t 3)) [],oo_ 32 (.load false 1 (.t
 31)) [2],oo_ 33 (.ix 1 (.t 32) (.d (.int .i64 0))) [3],oo_ 34 (.load false 1 (.t 33)) [4],oo_ 35 (.call 111 [(.t 30),(.t 34)]) [1,5],om_ 28 35 [6],oo_ 36 (.ext (.t 28) 0) [7],oo_ 37 (.ext (.t 28) 1) [7],om_ 7 36
 [8,6,0,1,2,3,4,5,6,7,8],om_ 8 37 [9,10,0,1,2,3,4,5,6,7,8,9,10]]) (.seq (.reg false [om_ 38 7 [],oo_ 39 (.call 112 [(.t 38)]) [0],om_ 40 8 [],oo_ 41 (.bsl 28 1 1 [(.int .u64 0)] [(0,1,(.t 40))]) [2],oo_ 42 (.call 108
 [(.t 41)]) [3,1],on_ (.store 1 (.t 4) (.t 39)) [1,4,0,1],on_ (.store 1 (.t 5) (.t 42)) [4,5,0,1,2,3,4,5],oo_ 6 (.mv (.d (.int .i64 0))) [6,0,1,2,3,4,5,6]]) .ret)) .skip))))))) (.seq (.reg false [oo_ 43 (.load true 1 (.t
 2)) [],oo_ 44 (.load true 1 (.t 3)) [],oo_ 45 (.call 233 [(.t 43),(.t 44)]) [0,1],oo_ 46 (.ext (.t 45) 0) [2],oo_ 47 (.ext (.t 45) 1) [2],oo_ 48 (.ext (.t 45) 2) [2],on_ (.store 1 (.t 4) (.t 46)) [3,2,0,1,2,3,4,5],on_
 (.store 1 (.t 5) (.t 47)) [4,6,0,1,2,3,4,5,6],om_ 6 48 [5,7,0,1,2,3,4,5,6,7]]) .ret)))
theorem o_hp : fnOf Tryz.prog o_7a = some (o_7b, [.cell 4 true 1, .cell 5 true 1, .t 6], 49, false) := by kernel_rfl

abbrev o_3w : FuncId := 231
def o_3x : C := (.seq (.reg false [oo_ 2 (.box 47 (.t 0)) [],oo_ 3 (.box 47 (.t 1)) [],oo_ 4 (.new 47 [.nilsl]) [],oo_ 5 (.mv (.d (.int .i64 0))) []]) (.seq (.seq (.reg false [oo_ 11 (.load true 1 (.t 2)) [],oo_ 12 (.load true 1 (.t
 3)) [],oo_ 13 (.call 105 [(.t 11),(.t 12)]) [0,1],oo_ 14 (.bin .lss (.t 13) (.d (.int .i64 0))) [2]]) (.cond (.t 14) (.seq (.reg false [oo_ 15 (.build [.nilsl] []) [],on_ (.store 1 (.t 4) (.t 15)) [0,0],oo_ 5 (.mv (.d
 (.int .i64 2))) [1,0,1]]) .ret) .skip)) (.seq (.reg false [oo_ 16 (.fa 0 (.t 2)) [],oo_ 17 (.load false 1 (.t 16)) [0],oo_ 18 (.len (.t 17)) [1],oo_ 19 (.mksl 28 1 8 [(.int .u64 0)] (.t 18) (.t 18)) [2,2],om_ 6 19
 [3,0,1,2,3]]) (.seq (.reg false [oo_ 7 (.mv (.d (.int .u64 0))) []]) (.seq (.seq (.reg false [oo_ 20 (.fa 0 (.t 2)) [],oo_ 21 (.load false 1 (.t 20)) [0],oo_ 22 (.len (.t 21)) [1],oo_ 23 (.mv (.d (.int .i64 0))) []])
 (.block 0 (.loop (.seq (.reg false [oo_ 24 (.bin .lss (.t 23) (.t 22)) []]) (.seq (.cond (.t 24) .skip (.exit 0)) (.seq (.block 1 (.seq (.reg false [om_ 25 23 [],oo_ 26 (.ix 1 (.t 21) (.t 23)) [],oo_ 27 (.load false 1
 (.t 26)) [1],om_ 8 25 [0,0,1,2],om_ 9 27 [2,3,0,1,2,3]]) (.seq (.reg false [oo_ 10 (.mv (.d (.int .u64 0))) []]) (.seq (.seq (.reg false [om_ 28 8 [],oo_ 29 (.fa 0 (.t 3)) [],oo_ 30 (.load false 1 (.t 29)) [1],oo_ 31
 (.len (.t 30)) [2],oo_ 32 (.bin .lss (.t 28) (.t 31)) [0,3]]) (.cond (.t 32) (.reg false [oo_ 33 (.fa 0 (.t 3)) [],oo_ 34 (.load false 1 (.t 33)) [0],om_ 35 8 [],oo_ 36 (.ix 1 (.t 34) (.t 35)) [1,2],oo_ 37 (.load false
 1 (.t 36)) [3],om_ 10 37 [4,0,1,2,3,4]]) .skip)) (.reg false [om_ 39 6 [],om_ 40 8 [],om_ 41 9 [],om_ 42 10 [],om_ 43 7 [],oo_ 44 (.call 234 [(.t 41),(.t 42),(.t 43)]) [2,3,4],om_ 38 44 [5],oo_ 45 (.ext (.t 38) 0)
 [6],oo_ 46 (.ext (.t 38) 1) [6],oo_ 47 (.ix 1 (.t 39) (.t 40)) [0,1,0,1,2,3,4,5,6,7],on_ (.store 1 (.t 47) (.t 45)) [9,7,5,0,1,2,3,4,5,6,7],om_ 7 46 [8,10,0,1,2,3,4,5,6,7,8,9,10]]))))) (.reg false [oo_ 48 (.bin .add (.t
 23) (.d (.int .i64 1))) [],om_ 23 48 [0]]))))))) (.seq (.reg false [om_ 49 6 [],oo_ 50 (.call 112 [(.t 49)]) [0],on_ (.store 1 (.t 4) (.t 50)) [1,1,0,1],oo_ 5 (.mv (.d (.int .i64 0))) [2,0,1,2]]) .ret))))))
theorem o_7c : fnOf Tryz.prog o_3w = some (o_3x, [.cell 4 true 1, .t 5], 51, false) := by kernel_rfl

abbrev o_hq : FuncId := 232
def o_3y : C := (.seq (.reg false [oo_ 2 (.box 49 (.t 0)) [],oo_ 3 (.box 49 (.t 1)) [],oo_ 4 (.new 49 [.nilsl,(.bool false)]) []]) (.seq (.seq (.reg false [oo_ 9 (.fa 1 (.t 2)) [],oo_ 10 (.load false 1 (.t 9)) [0],oo_ 11 (.fa 1 (.t 3))
 [],oo_ 12 (.load false 1 (.t 11)) [2],oo_ 13 (.beq false (.t 10) (.t 12)) [1,3]]) (.cond (.t 13) (.seq (.reg true [oo_ 14 (.fa 1 (.t 2)) [],oo_ 15 (.load false 1 (.t 14)) [0],oo_ 16 (.fa 0 (.t 2)) [],oo_ 17 (.load true
 1 (.t 16)) [2],oo_ 18 (.fa 0 (.t 3)) [],oo_ 19 (.load true 1 (.t 18)) [4],oo_ 20 (.call 110 [(.t 17),(.t 19)]) [3,5],oo_ 21 (.call 106 [(.t 15),(.t 20)]) [1,6,6],on_ (.store 2 (.t 4) (.t 21)) [7,7,0,1,2,3,4,5,6,7]])
 .ret) .skip)) (.seq (.seq (.reg false [oo_ 23 (.fa 0 (.t 2)) [],oo_ 24 (.load true 1 (.t 23)) [0],oo_ 25 (.fa 0 (.t 3)) [],oo_ 26 (.load true 1 (.t 25)) [2],oo_ 27 (.call 231 [(.t 24),(.t 26)]) [1,3],om_ 22 27 [4],oo_
 28 (.ext (.t 22) 0) [5],oo_ 29 (.ext (.t 22) 1) [5],oo_ 5 (.new 47 [.nilsl]) [],on_ (.store 1 (.t 5) (.t 28)) [8,6,4,0,1,2,3,4,5,6,8],om_ 6 29 [7,9,0,1,2,3,4,5,6,7,8,9]]) (.seq (.reg false [om_ 30 6 [],oo_ 31 (.bin .eql
 (.t 30) (.d (.int .i64 0))) [0]]) (.cond (.t 31) (.seq (.reg false [oo_ 32 (.fa 1 (.t 2)) [],oo_ 33 (.load false 1 (.t 32)) [0],oo_ 34 (.load true 1 (.t 5)) [],oo_ 35 (.call 106 [(.t 33),(.t 34)]) [1,2],on_ (.store 2
 (.t 4) (.t 35)) [3,3,0,1,2,3]]) .ret) .skip))) (.seq (.reg false [oo_ 37 (.fa 0 (.t 3)) [],oo_ 38 (.load true 1 (.t 37)) [0],oo_ 39 (.fa 0 (.t 2)) [],oo_ 40 (.load true 1 (.t 39)) [2],oo_ 41 (.call 231 [(.t 38),(.t
 40)]) [1,3],om_ 36 41 [4],oo_ 42 (.ext (.t 36) 0) [5],oo_ 43 (.ext (.t 36) 1) [5],oo_ 7 (.new 47 [.nilsl]) [],on_ (.store 1 (.t 7) (.t 42)) [8,6,4,0,1,2,3,4,5,6,8],om_ 8 43 [7,9,0,1,2,3,4,5,6,7,8,9]]) (.seq (.reg false
 [oo_ 44 (.fa 1 (.t 3)) [],oo_ 45 (.load false 1 (.t 44)) [0],oo_ 46 (.load true 1 (.t 7)) [],oo_ 47 (.call 106 [(.t 45),(.t 46)]) [1,2],on_ (.store 2 (.t 4) (.t 47)) [3,3,0,1,2,3]]) .ret)))))
theorem o_rw : fnOf Tryz.prog o_hq = some (o_3y, [.cell 4 true 2], 48, false) := by kernel_rfl

abbrev o_hr : FuncId := 233
def o_hs : C := (.seq (.reg false [oo_ 2 (.box 47 (.t 0)) [],oo_ 3 (.box 47 (.t 1)) [],oo_ 4 (.new 47 [.nilsl]) [],oo_ 5 (.new 47 [.nilsl]) [],oo_ 6 (.mv (.d (.int .i64 0))) []]) (.seq (.reg false [oo_ 13 (.fa 0 (.t 3)) [],oo_ 14
 (.load false 1 (.t 13)) [0],oo_ 15 (.len (.t 14)) [1],om_ 7 15 [2,0,1,2]]) (.seq (.reg false [oo_ 16 (.fa 0 (.t 3)) [],oo_ 17 (.load false 1 (.t 16)) [0],om_ 18 7 [],oo_ 19 (.bin .sub (.t 18) (.d (.int .i64 1))) [2],oo_
 20 (.ix 1 (.t 17) (.t 19)) [1,3],oo_ 21 (.load false 1 (.t 20)) [4],oo_ 22 (.call 167 [(.t 21)]) [5],om_ 8 22 [6,6,0,1,2,3,4,5,6]]) (.seq (.reg false [oo_ 23 (.fa 0 (.t 3)) [],oo_ 24 (.load false 1 (.t 23)) [0],om_ 25 8
 [],oo_ 26 (.call 162 [(.t 24),(.t 25)]) [1,2],om_ 27 7 [],oo_ 28 (.slice 1 (.t 26) none (some (.t 27)) none) [3,4],om_ 9 28 [5,3,0,1,2,3,4,5]]) (.seq (.reg false [oo_ 29 (.fa 0 (.t 2)) [],oo_ 30 (.load false 1 (.t 29))
 [0],om_ 31 8 [],oo_ 32 (.call 162 [(.t 30),(.t 31)]) [1,2],om_ 10 32 [3,3,0,1,2,3]]) (.seq (.reg false [om_ 33 10 [],oo_ 34 (.len (.t 33)) [0],om_ 35 7 [],oo_ 36 (.bin .sub (.t 34) (.t 35)) [1,2],oo_ 37 (.mksl 28 1 8
 [(.int .u64 0)] (.t 36) (.t 36)) [3,3],om_ 11 37 [4,0,1,2,3,4]]) (.seq (.seq (.reg false [om_ 38 11 [],oo_ 39 (.len (.t 38)) [0],oo_ 40 (.bin .sub (.t 39) (.d (.int .i64 1))) [1],om_ 12 40 [2,0,1,2]]) (.block 0 (.loop
 (.seq (.seq (.reg false [om_ 41 12 [],oo_ 42 (.bin .geq (.t 41) (.d (.int .i64 0))) [0]]) (.cond (.t 42) .skip (.exit 0))) (.seq (.block 1 (.reg false [om_ 45 11 [],om_ 46 12 [],om_ 47 10 [],om_ 48 12 [],om_ 49 12
 [],om_ 50 7 [],oo_ 51 (.bin .add (.t 49) (.t 50)) [4,5],oo_ 52 (.bin .add (.t 51) (.d (.int .i64 1))) [6],oo_ 53 (.slice 1 (.t 47) (some (.t 48)) (some (.t 52)) none) [2,3,7],om_ 54 9 [],oo_ 55 (.call 235 [(.t 53),(.t
 54)]) [8,9],oo_ 56 (.ix 1 (.t 45) (.t 46)) [0,1,0,1,2,3,4,5,6,7,8,9,10],on_ (.store 1 (.t 56) (.t 55)) [11,10,10,0,1,2,3,4,5,6,7,8,9,10]])) (.reg false [om_ 43 12 [],oo_ 44 (.bin .sub (.t 43) (.d (.int .i64 1))) [0],om_
 12 44 [1,0,1]])))))) (.seq (.reg true [om_ 57 11 [],oo_ 58 (.call 112 [(.t 57)]) [0],om_ 59 10 [],om_ 60 7 [],oo_ 61 (.slice 1 (.t 59) none (some (.t 60)) none) [2,3],oo_ 62 (.call 112 [(.t 61)]) [4,1],om_ 63 8 [],oo_
 64 (.call 236 [(.t 62),(.t 63)]) [5,6,5],on_ (.store 1 (.t 4) (.t 58)) [1,7,0,1],on_ (.store 1 (.t 5) (.t 64)) [7,8,0,1,2,3,4,5,6,7,8],oo_ 6 (.mv (.d (.int .i64 0))) [9,0,1,2,3,4,5,6,7,8,9]]) .ret))))))))
theorem o_rx : fnOf Tryz.prog o_hr = some (o_hs, [.cell 4 true 1, .cell 5 true 1, .t 6], 65, false) := by kernel_rfl

abbrev o_ht : FuncId := 235
def o_hu : C := (.seq (.reg false [oo_ 4 (.mv (.d (.int .u64 0))) []]) (.seq (.reg false [om_ 11 1 [],oo_ 12 (.len (.t 11)) [0],om_ 5 12 [1,0,1]]) (.seq (.reg false [oo_ 6 (.mv (.d (.int .u64 18446744073709551615))) []]) (.seq (.seq
 (.reg true [om_ 13 0 [],om_ 14 5 [],oo_ 15 (.ix 1 (.t 13) (.t 14)) [0,1],oo_ 16 (.load false 1 (.t 15)) [2],om_ 17 1 [],om_ 18 5 [],oo_ 19 (.bin .sub (.t 18) (.d (.int .i64 1))) [5],oo_ 20 (.ix 1 (.t 17) (.t 19))
 [4,6],oo_ 21 (.load false 1 (.t 20)) [7],oo_ 22 (.bin .lss (.t 16) (.t 21)) [3,8]]) (.cond (.t 22) (.reg true [om_ 24 0 [],om_ 25 5 [],oo_ 26 (.ix 1 (.t 24) (.t 25)) [0,1],oo_ 27 (.load false 1 (.t 26)) [2],om_ 28 0
 [],om_ 29 5 [],oo_ 30 (.bin .sub (.t 29) (.d (.int .i64 1))) [5],oo_ 31 (.ix 1 (.t 28) (.t 30)) [4,6],oo_ 32 (.load false 1 (.t 31)) [7],om_ 33 1 [],om_ 34 5 [],oo_ 35 (.bin .sub (.t 34) (.d (.int .i64 1))) [10],oo_ 36
 (.ix 1 (.t 33) (.t 35)) [9,11],oo_ 37 (.load false 1 (.t 36)) [12],oo_ 38 (.call 151 [(.t 27),(.t 32),(.t 37)]) [3,8,13],om_ 23 38 [14],oo_ 39 (.ext (.t 23) 0) [15],oo_ 40 (.ext (.t 23) 1) [15],om_ 6 39
 [16,14,0,1,2,3,4,5,6,7,8,9,10,11,12,13,14,15,16]]) .skip)) (.seq (.seq (.reg false [om_ 41 0 [],om_ 42 1 [],om_ 43 6 [],oo_ 44 (.call 237 [(.t 41),(.t 42),(.t 43)]) [0,1,2],om_ 7 44 [3,3,0,1,2,3]]) (.block 0 (.loop
 (.seq (.seq (.reg false [om_ 45 7 [],oo_ 46 (.bin .gtr (.t 45) (.d (.int .i64 0))) [0]]) (.cond (.t 46) .skip (.exit 0))) (.seq (.block 1 (.seq (.reg false [om_ 49 6 [],oo_ 50 (.bin .sub (.t 49) (.d (.int .u64 1)))
 [0],om_ 6 50 [1,0,1]]) (.seq (.reg false [oo_ 8 (.mv (.d (.int .u64 0))) []]) (.seq (.seq (.reg false [om_ 51 1 [],oo_ 52 (.len (.t 51)) [0],oo_ 53 (.mv (.d (.int .i64 0))) []]) (.block 2 (.loop (.seq (.reg false [oo_
 54 (.bin .lss (.t 53) (.t 52)) []]) (.seq (.cond (.t 54) .skip (.exit 2)) (.seq (.block 3 (.seq (.reg false [om_ 55 53 [],oo_ 56 (.ix 1 (.t 51) (.t 53)) [],oo_ 57 (.load false 1 (.t 56)) [1],om_ 9 55 [0,0,1,2],om_ 10 57
 [2,3,0,1,2,3]]) (.reg false [om_ 59 0 [],om_ 60 9 [],om_ 61 0 [],om_ 62 9 [],oo_ 63 (.ix 1 (.t 61) (.t 62)) [2,3],oo_ 64 (.load false 1 (.t 63)) [4],om_ 65 10 [],om_ 66 8 [],oo_ 67 (.call 149 [(.t 64),(.t 65),(.t 66)])
 [5,6,7],om_ 58 67 [8],oo_ 68 (.ext (.t 58) 0) [9],oo_ 69 (.ext (.t 58) 1) [9],oo_ 70 (.ix 1 (.t 59) (.t 60)) [0,1,0,1,2,3,4,5,6,7,8,9,10],on_ (.store 1 (.t 70) (.t 68)) [12,10,8,0,1,2,3,4,5,6,7,8,9,10],om_ 8 69
 [11,13,0,1,2,3,4,5,6,7,8,9,10,11,12,13]]))) (.reg false [oo_ 71 (.bin .add (.t 53) (.d (.int .i64 1))) [],om_ 53 71 [0]]))))))) (.seq (.reg false [om_ 72 0 [],om_ 73 5 [],oo_ 74 (.ix 1 (.t 72) (.t 73)) [0,1],oo_ 75
 (.load false 1 (.t 74)) [2],om_ 76 8 [],oo_ 77 (.bin .add (.t 75) (.t 76)) [3,4],oo_ 78 (.ix 1 (.t 72) (.t 73)) [0,1,0,1,2,3,4,5],on_ (.store 1 (.t 78) (.t 77)) [6,5,0,1,2,3,4,5]]) (.seq (.reg false [om_ 79 0 [],om_ 80
 5 [],oo_ 81 (.ix 1 (.t 79) (.t 80)) [0,1],oo_ 82 (.load false 1 (.t 81)) [2],oo_ 83 (.bin .neq (.t 82) (.d (.int .u64 0))) [3]]) (.cond (.t 83) (.reg false [om_ 84 7 [],oo_ 85 (.bin .add (.t 84) (.d (.int .i64 1)))
 [0],om_ 7 85 [1,0,1]]) .skip))))))) (.reg false [om_ 47 7 [],oo_ 48 (.bin .sub (.t 47) (.d (.int .i64 1))) [0],om_ 7 48 [1,0,1]])))))) (.seq (.reg false [om_ 86 6 [],om_ 4 86 [0,0]]) .ret))))))
theorem o_ry : fnOf Tryz.prog o_ht = some (o_hu, [.t 4], 87, false) := by kernel_rfl

abbrev o_hv : FuncId := 236
def o_hw : C := (.seq (.reg false [oo_ 2 (.box 47 (.t 0)) [],oo_ 4 (.new 47 [.nilsl]) []]) (.seq (.reg false [om_ 8 1 [],oo_ 9 (.mm true [(.d (.int .i64 0)),(.t 8)]) [0],om_ 1 9 [1,0,1]]) (.seq (.seq (.reg false [om_ 10 1 [],oo_ 11
 (.bin .quo (.t 10) (.d (.int .i64 64))) [0],oo_ 12 (.fa 0 (.t 2)) [],oo_ 13 (.load false 1 (.t 12)) [2],oo_ 14 (.len (.t 13)) [3],oo_ 15 (.bin .geq (.t 11) (.t 14)) [1,4]]) (.cond (.t 15) (.seq (.reg false [oo_ 16
 (.build [.nilsl] []) [],on_ (.store 1 (.t 4) (.t 16)) [0,0]]) .ret) .skip)) (.seq (.reg false [oo_ 17 (.fa 0 (.t 2)) [],oo_ 18 (.load false 1 (.t 17)) [0],om_ 19 1 [],oo_ 20 (.bin .quo (.t 19) (.d (.int .i64 64)))
 [2],oo_ 21 (.slice 1 (.t 18) (some (.t 20)) none none) [1,3],oo_ 22 (.call 150 [(.t 21)]) [4],om_ 5 22 [5,5,0,1,2,3,4,5]]) (.seq (.seq (.reg false [om_ 23 1 [],oo_ 24 (.bin .rem (.t 23) (.d (.int .i64 64))) [0],oo_ 6
 (.mv (.d (.int .i64 0))) [],om_ 7 24 [1,2,0,1,2]]) (.block 0 (.loop (.seq (.seq (.reg false [om_ 25 6 [],om_ 26 5 [],oo_ 27 (.len (.t 26)) [1],oo_ 28 (.bin .lss (.t 25) (.t 27)) [0,2]]) (.cond (.t 28) .skip (.exit 0)))
 (.seq (.block 1 (.seq (.reg false [om_ 31 5 [],om_ 32 6 [],oo_ 33 (.ix 1 (.t 31) (.t 32)) [0,1],oo_ 34 (.load false 1 (.t 33)) [2],om_ 35 7 [],oo_ 36 (.bin .shr (.t 34) (.t 35)) [3,4],oo_ 37 (.ix 1 (.t 31) (.t 32))
 [0,1,0,1,2,3,4,5],on_ (.store 1 (.t 37) (.t 36)) [6,5,0,1,2,3,4,5]]) (.seq (.reg false [om_ 38 6 [],oo_ 39 (.bin .add (.t 38) (.d (.int .i64 1))) [0],om_ 40 5 [],oo_ 41 (.len (.t 40)) [2],oo_ 42 (.bin .lss (.t 39) (.t
 41)) [1,3]]) (.cond (.t 42) (.reg true [om_ 43 5 [],om_ 44 6 [],oo_ 45 (.ix 1 (.t 43) (.t 44)) [0,1],oo_ 46 (.load false 1 (.t 45)) [2],om_ 47 5 [],om_ 48 6 [],oo_ 49 (.bin .add (.t 48) (.d (.int .i64 1))) [5],oo_ 50
 (.ix 1 (.t 47) (.t 49)) [4,6],oo_ 51 (.load false 1 (.t 50)) [7],om_ 52 7 [],oo_ 53 (.bin .sub (.d (.int .i64 64)) (.t 52)) [9],oo_ 54 (.bin .shl (.t 51) (.t 53)) [8,10],oo_ 55 (.bin .or (.t 46) (.t 54)) [3,11],oo_ 56
 (.ix 1 (.t 43) (.t 44)) [0,1,0,1,2,3,4,5,6,7,8,9,10,11,12],on_ (.store 1 (.t 56) (.t 55)) [13,12,0,1,2,3,4,5,6,7,8,9,10,11,12]]) .skip)))) (.reg false [om_ 29 6 [],oo_ 30 (.bin .add (.t 29) (.d (.int .i64 1))) [0],om_ 6
 30 [1,0,1]])))))) (.seq (.reg false [om_ 57 5 [],oo_ 58 (.call 112 [(.t 57)]) [0],on_ (.store 1 (.t 4) (.t 58)) [1,1,0,1]]) .ret))))))
theorem o_rz : fnOf Tryz.prog o_hv = some (o_hw, [.cell 4 true 1], 59, false) := by kernel_rfl

abbrev o_7d : FuncId := 237
def o_hx : C := (.seq (.reg false [oo_ 6 (.mv (.d (.int .i64 0))) []]) (.seq (.reg false [oo_ 7 (.mv (.d (.int .u64 0))) [],oo_ 8 (.mv (.d (.int .u64 0))) [0]]) (.seq (.seq (.reg false [om_ 15 1 [],oo_ 16 (.len (.t 15)) [0],oo_ 17 (.mv
 (.d (.int .i64 0))) []]) (.block 0 (.loop (.seq (.reg false [oo_ 18 (.bin .lss (.t 17) (.t 16)) []]) (.seq (.cond (.t 18) .skip (.exit 0)) (.seq (.block 1 (.seq (.reg false [om_ 19 17 [],oo_ 20 (.ix 1 (.t 15) (.t 17))
 [],oo_ 21 (.load false 1 (.t 20)) [1],om_ 9 19 [0,0,1,2],om_ 10 21 [2,3,0,1,2,3]]) (.seq (.reg false [om_ 23 10 [],om_ 24 2 [],oo_ 25 (.call 148 [(.t 23),(.t 24)]) [0,1],om_ 22 25 [2],oo_ 26 (.ext (.t 22) 0) [3],oo_ 27
 (.ext (.t 22) 1) [3],om_ 11 26 [4,2,0,1,2,3,4],om_ 12 27 [5,6,0,1,2,3,4,5,6]]) (.seq (.reg false [oo_ 13 (.mv (.d (.int .u64 0))) []]) (.seq (.reg false [om_ 29 12 [],om_ 30 7 [],oo_ 31 (.call 149 [(.t 29),(.t 30),(.d
 (.int .u64 0))]) [0,1],om_ 28 31 [2],oo_ 32 (.ext (.t 28) 0) [3],oo_ 33 (.ext (.t 28) 1) [3],om_ 12 32 [4,2,0,1,2,3,4],om_ 13 33 [5,6,0,1,2,3,4,5,6]]) (.seq (.reg false [om_ 34 11 [],om_ 35 13 [],oo_ 36 (.bin .add (.t
 34) (.t 35)) [0,1],om_ 7 36 [2,0,1,2]]) (.reg false [om_ 38 0 [],om_ 39 9 [],om_ 40 0 [],om_ 41 9 [],oo_ 42 (.ix 1 (.t 40) (.t 41)) [2,3],oo_ 43 (.load false 1 (.t 42)) [4],om_ 44 12 [],om_ 45 8 [],oo_ 46 (.call 234
 [(.t 43),(.t 44),(.t 45)]) [5,6,7],om_ 37 46 [8],oo_ 47 (.ext (.t 37) 0) [9],oo_ 48 (.ext (.t 37) 1) [9],oo_ 49 (.ix 1 (.t 38) (.t 39)) [0,1,0,1,2,3,4,5,6,7,8,9,10],on_ (.store 1 (.t 49) (.t 47))
 [12,10,8,0,1,2,3,4,5,6,7,8,9,10],om_ 8 48 [11,13,0,1,2,3,4,5,6,7,8,9,10,11,12,13]]))))))) (.reg false [oo_ 50 (.bin .add (.t 17) (.d (.int .i64 1))) [],om_ 17 50 [0]]))))))) (.seq (.reg false [om_ 51 1 [],oo_ 52 (.len
 (.t 51)) [0],om_ 14 52 [1,0,1]]) (.seq (.reg false [om_ 54 0 [],om_ 55 14 [],om_ 56 0 [],om_ 57 14 [],oo_ 58 (.ix 1 (.t 56) (.t 57)) [2,3],oo_ 59 (.load false 1 (.t 58)) [4],om_ 60 7 [],om_ 61 8 [],oo_ 62 (.call 234
 [(.t 59),(.t 60),(.t 61)]) [5,6,7],om_ 53 62 [8],oo_ 63 (.ext (.t 53) 0) [9],oo_ 64 (.ext (.t 53) 1) [9],oo_ 65 (.ix 1 (.t 54) (.t 55)) [0,1,0,1,2,3,4,5,6,7,8,9,10],on_ (.store 1 (.t 65) (.t 63))
 [12,10,8,0,1,2,3,4,5,6,7,8,9,10],om_ 8 64 [11,13,0,1,2,3,4,5,6,7,8,9,10,11,12,13]]) (.seq (.reg false [om_ 66 8 [],oo_ 67 (.conv .i64 (.t 66)) [0],om_ 6 67 [1,0,1]]) .ret))))))
theorem o_s0 : fnOf Tryz.prog o_7d = some (o_hx, [.t 6], 68, false) := by kernel_rfl

abbrev o_7e : FuncId := 240
def o_hy : C := (.seq (.reg false [oo_ 2 (.mv (.d (.bool false))) []]) (.seq (.reg false [om_ 3 0 [],oo_ 4 (.call 245 [(.t 3)]) [0],om_ 2 4 [1,1,0,1]]) .ret))
theorem o_s1 : fnOf Tryz.prog o_7e = some (o_hy, [.t 2], 5, false) := by kernel_rfl

abbrev o_7f : FuncId := 242
def o_hz : C := (.seq (.reg false [oo_ 6 (.mv (.d (.bool false))) [],oo_ 7 (.mv (.d (.int .i64 0))) [0]]) (.seq (.reg false [om_ 8 1 [],om_ 9 0 [],om_ 10 2 [],oo_ 11 (.call 246 [(.t 8),(.t 9),(.t 10)]) [0,1,2],oo_ 12 (.ext (.t 11) 0)
 [3],oo_ 13 (.ext (.t 11) 1) [3],om_ 6 12 [4,3,0,1,2,3,4,5],om_ 7 13 [5,6,0,1,2,3,4,5,6]]) .ret))
theorem o_s2 : fnOf Tryz.prog o_7f = some (o_hz, [.t 6, .t 7], 14, false) := by kernel_rfl

abbrev o_7g : FuncId := 243
def o_i0 : C := (.seq (.reg false [oo_ 4 (.new 51 [.nilsl,(.bool false),.nilsl]) [],oo_ 5 (.mv (.d (.int .i64 0))) []]) (.seq (.reg false [om_ 9 0 [],om_ 10 1 [],oo_ 11 (.call 247 [(.t 9),(.t 10)]) [0,1],om_ 8 11 [2],oo_ 12 (.ext (.t
 8) 0) [3],oo_ 13 (.ext (.t 8) 1) [3],oo_ 6 (.new 47 [.nilsl]) [],on_ (.store 1 (.t 6) (.t 12)) [6,4,2,0,1,2,3,4,6],om_ 7 13 [5,7,0,1,2,3,4,5,6,7]]) (.seq (.reg false [oo_ 14 (.load true 1 (.t 6)) [],oo_ 15 (.call 70
 [(.t 14)]) [0],om_ 16 7 [],on_ (.store 3 (.t 4) (.t 15)) [1,1,0,1],om_ 5 16 [2,3,0,1,2,3]]) .ret)))
theorem o_s3 : fnOf Tryz.prog o_7g = some (o_i0, [.cell 4 true 3, .t 5], 17, false) := by kernel_rfl

abbrev o_i1 : FuncId := 245
def o_i2 : C := (.seq (.reg false [oo_ 2 (.mv (.d (.bool false))) []]) (.seq (.reg false [om_ 3 0 [],oo_ 4 (.bin .geq (.t 3) (.d (.int .i64 0))) [0],om_ 5 4 [1],og_ 6 (.mv (.t 0)) 5 true [2],og_ 7 (.bin .leq (.t 6) (.d (.int .i64 8)))
 5 true [3,2],oo_ 8 (.pick (.t 5) (.t 7) (.d (.bool false))) [2,4],om_ 2 8 [5,2,0,1,2,3,4,5]]) .ret))
theorem o_s4 : fnOf Tryz.prog o_i1 = some (o_i2, [.t 2], 9, false) := by kernel_rfl

abbrev o_i3 : FuncId := 246
def o_i4 : C := (.seq (.reg false [oo_ 6 (.mv (.d (.bool false))) [],oo_ 7 (.mv (.d (.int .i64 0))) [0]]) (.seq (.seq (.reg false [om_ 11 1 [],om_ 12 2 [],oo_ 13 (.bsl 3 1 1 [(.int .i64 0)] [(0,1,(.t 12))]) [1],oo_ 14 (.call 248 [(.t
 11),(.t 13)]) [0,2],om_ 8 14 [3,3,0,1,2,3]]) (.seq (.reg false [om_ 15 8 [],oo_ 16 (.bin .neq (.t 15) (.d (.int .i64 0))) [0]]) (.cond (.t 16) (.seq (.reg false [om_ 17 8 [],oo_ 6 (.mv (.d (.bool false))) [],om_ 7 17
 [0,1,0,1]]) .ret) .skip))) (.seq (.reg false [om_ 19 1 [],om_ 20 2 [],oo_ 21 (.call 249 [(.t 19),(.t 20)]) [0,1],om_ 18 21 [2],oo_ 22 (.ext (.t 18) 0) [3],oo_ 23 (.ext (.t 18) 1) [3],om_ 9 22 [4,2,0,1,2,3,4],om_ 10 23
 [5,6,0,1,2,3,4,5,6]]) (.seq (.reg false [om_ 24 0 [],om_ 25 9 [],oo_ 26 (.call 164 [(.t 24),(.t 25)]) [0,1],oo_ 27 (.ext (.t 26) 0) [2],oo_ 28 (.ext (.t 26) 1) [2],om_ 6 27 [3,2,0,1,2,3,4],om_ 7 28 [4,5,0,1,2,3,4,5]])
 .ret))))
theorem o_s5 : fnOf Tryz.prog o_i3 = some (o_i4, [.t 6, .t 7], 29, false) := by kernel_rfl

abbrev o_7h : FuncId := 247
def o_i5 : C := (.seq (.reg false [oo_ 4 (.new 47 [.nilsl]) [],oo_ 5 (.mv (.d (.int .i64 0))) []]) (.seq (.seq (.reg false [om_ 11 0 [],om_ 12 1 [],oo_ 13 (.bsl 3 1 1 [(.int .i64 0)] [(0,1,(.t 12))]) [1],oo_ 14 (.call 248 [(.t 11),(.t
 13)]) [0,2],om_ 6 14 [3,3,0,1,2,3]]) (.seq (.reg false [om_ 15 6 [],oo_ 16 (.bin .neq (.t 15) (.d (.int .i64 0))) [0]]) (.cond (.t 16) (.seq (.reg false [oo_ 17 (.build [.nilsl] []) [],om_ 18 6 [],on_ (.store 1 (.t 4)
 (.t 17)) [0,0],om_ 5 18 [1,2,0,1,2]]) .ret) .skip))) (.seq (.reg false [om_ 20 0 [],om_ 21 1 [],oo_ 22 (.call 249 [(.t 20),(.t 21)]) [0,1],om_ 19 22 [2],oo_ 23 (.ext (.t 19) 0) [3],oo_ 24 (.ext (.t 19) 1) [3],om_ 7 23
 [4,2,0,1,2,3,4],om_ 8 24 [5,6,0,1,2,3,4,5,6]]) (.seq (.reg false [om_ 26 0 [],oo_ 27 (.bin .shl (.d (.int .i64 1)) (.t 26)) [0],om_ 28 8 [],oo_ 29 (.bin .add (.t 27) (.t 28)) [1,2],oo_ 30 (.conv .u64 (.t 29)) [3],oo_ 31
 (.bsl 28 1 1 [(.int .u64 0)] [(0,1,(.t 30))]) [4],oo_ 32 (.call 108 [(.t 31)]) [5],om_ 33 7 [],oo_ 34 (.call 120 [(.t 32),(.t 33)]) [6,7,6],om_ 25 34 [8],oo_ 35 (.ext (.t 25) 0) [9],oo_ 36 (.ext (.t 25) 1) [9],oo_ 9
 (.new 47 [.nilsl]) [],on_ (.store 1 (.t 9) (.t 35)) [12,10,8,0,1,2,3,4,5,6,7,8,9,10,12],om_ 10 36 [11,13,0,1,2,3,4,5,6,7,8,9,10,11,12,13]]) (.seq (.reg true [oo_ 37 (.load true 1 (.t 9)) [],om_ 38 0 [],oo_ 39 (.bin .shl
 (.d (.int .u64 1)) (.t 38)) [1],oo_ 40 (.bsl 28 1 1 [(.int .u64 0)] [(0,1,(.t 39))]) [2],oo_ 41 (.call 108 [(.t 40)]) [3],oo_ 42 (.call 231 [(.t 37),(.t 41)]) [0,4,4],oo_ 43 (.ext (.t 42) 0) [5],oo_ 44 (.ext (.t 42) 1)
 [5],on_ (.store 1 (.t 4) (.t 43)) [6,5,0,1,2,3,4,5,6,7],om_ 5 44 [7,8,0,1,2,3,4,5,6,7,8]]) .ret)))))
theorem o_s6 : fnOf Tryz.prog o_7h = some (o_i5, [.cell 4 true 1, .t 5], 45, false) := by kernel_rfl

abbrev o_7i : FuncId := 248
def o_i6 : C := (.seq (.reg false [oo_ 4 (.mv (.d (.int .i64 0))) []]) (.seq (.seq (.reg false [om_ 7 0 [],oo_ 8 (.call 245 [(.t 7)]) [0],oo_ 9 (.un .not (.t 8)) [1]]) (.cond (.t 9) (.seq (.reg false [oo_ 4 (.mv (.d (.int .i64 10)))
 []]) .ret) .skip)) (.seq (.seq (.reg false [om_ 10 1 [],oo_ 11 (.len (.t 10)) [0],oo_ 12 (.mv (.d (.int .i64 0))) []]) (.block 0 (.loop (.seq (.reg false [oo_ 13 (.bin .lss (.t 12) (.t 11)) []]) (.seq (.cond (.t 13)
 .skip (.exit 0)) (.seq (.block 1 (.seq (.reg false [oo_ 14 (.ix 1 (.t 10) (.t 12)) [],oo_ 15 (.load false 1 (.t 14)) [0],om_ 6 15 [1,0,1]]) (.seq (.reg false [om_ 16 6 [],oo_ 17 (.bin .lss (.t 16) (.d (.int .i64 0)))
 [0],om_ 18 17 [1],og_ 19 (.mv (.t 6)) 18 false [2],og_ 20 (.bin .gtr (.t 19) (.d (.int .i64 1023))) 18 false [3,2],oo_ 21 (.pick (.t 18) (.d (.bool true)) (.t 20)) [2,4]]) (.cond (.t 21) (.seq (.reg false [oo_ 4 (.mv
 (.d (.int .i64 2))) []]) .ret) .skip)))) (.reg false [oo_ 22 (.bin .add (.t 12) (.d (.int .i64 1))) [],om_ 12 22 [0]]))))))) (.seq (.reg false [oo_ 4 (.mv (.d (.int .i64 0))) []]) .ret))))
theorem o_s7 : fnOf Tryz.prog o_7i = some (o_i6, [.t 4], 23, false) := by kernel_rfl

abbrev o_i7 : FuncId := 249
def o_i8 : C := (.seq (.reg false [oo_ 4 (.mv (.d (.int .i64 0))) [],oo_ 5 (.mv (.d (.int .i64 0))) [0]]) (.seq (.reg true [om_ 6 1 [],om_ 7 0 [],oo_ 8 (.bin .shr (.t 6) (.t 7)) [0,1],om_ 9 1 [],om_ 10 0 [],oo_ 11 (.bin .shl (.d (.int
 .i64 1)) (.t 10)) [4],oo_ 12 (.bin .sub (.t 11) (.d (.int .i64 1))) [5],oo_ 13 (.bin .and (.t 9) (.t 12)) [3,6],om_ 4 8 [2,0,1,2],om_ 5 13 [7,8,0,1,2,3,4,5,6,7,8]]) .ret))
theorem o_s8 : fnOf Tryz.prog o_i7 = some (o_i8, [.t 4, .t 5], 14, false) := by kernel_rfl

abbrev o_7j : FuncId := 252
def o_i9 : C := (.seq (.reg false [oo_ 2 (.mv (.d (.bool false))) []]) (.seq (.reg false [om_ 3 0 [],oo_ 4 (.call 257 [(.t 3)]) [0],om_ 2 4 [1,1,0,1]]) .ret))
theorem o_s9 : fnOf Tryz.prog o_7j = some (o_i9, [.t 2], 5, false) := by kernel_rfl

abbrev o_7k : FuncId := 254
def o_ia : C := (.seq (.reg false [oo_ 6 (.mv (.d (.bool false))) [],oo_ 7 (.mv (.d (.int .i64 0))) [0]]) (.seq (.reg false [om_ 8 1 [],om_ 9 0 [],om_ 10 2 [],oo_ 11 (.call 258 [(.t 8),(.t 9),(.t 10)]) [0,1,2],oo_ 12 (.ext (.t 11) 0)
 [3],oo_ 13 (.ext (.t 11) 1) [3],om_ 6 12 [4,3,0,1,2,3,4,5],om_ 7 13 [5,6,0,1,2,3,4,5,6]]) .ret))
theorem o_sa : fnOf Tryz.prog o_7k = some (o_ia, [.t 6, .t 7], 14, false) := by kernel_rfl

abbrev o_7l : FuncId := 255
def o_ib : C := (.seq (.reg false [oo_ 4 (.new 51 [.nilsl,(.bool false),.nilsl]) [],oo_ 5 (.mv (.d (.int .i64 0))) []]) (.seq (.reg false [om_ 9 0 [],om_ 10 1 [],oo_ 11 (.call 259 [(.t 9),(.t 10)]) [0,1],om_ 8 11 [2],oo_ 12 (.ext (.t
 8) 0) [3],oo_ 13 (.ext (.t 8) 1) [3],oo_ 6 (.new 303 [(.int .i64 0),(.int .i64 0),.nilsl,.nilsl]) [],on_ (.store 4 (.t 6) (.t 12)) [6,4,2,0,1,2,3,4,6],om_ 7 13 [5,7,0,1,2,3,4,5,6,7]]) (.seq (.reg false [oo_ 14 (.fa 2
 (.t 6)) [],oo_ 15 (.load true 1 (.t 14)) [0],oo_ 16 (.call 70 [(.t 15)]) [1],om_ 17 7 [],on_ (.store 3 (.t 4) (.t 16)) [2,2,0,1,2],om_ 5 17 [3,4,0,1,2,3,4]]) .ret)))
theorem o_sb : fnOf Tryz.prog o_7l = some (o_ib, [.cell 4 true 3, .t 5], 18, false) := by kernel_rfl

abbrev o_ic : FuncId := 257
def o_id : C := (.seq (.reg false [oo_ 2 (.mv (.d (.bool false))) []]) (.seq (.reg false [om_ 3 0 [],oo_ 4 (.bin .geq (.t 3) (.d (.int .i64 1))) [0],om_ 5 4 [1],og_ 6 (.mv (.t 0)) 5 true [2],og_ 7 (.bin .leq (.t 6) (.d (.int .i64 5)))
 5 true [3,2],oo_ 8 (.pick (.t 5) (.t 7) (.d (.bool false))) [2,4],om_ 2 8 [5,2,0,1,2,3,4,5]]) .ret))
theorem o_sc : fnOf Tryz.prog o_ic = some (o_id, [.t 2], 9, false) := by kernel_rfl

abbrev o_ie : FuncId := 258
def o_if : C := (.seq (.reg false [oo_ 6 (.mv (.d (.bool false))) [],oo_ 7 (.mv (.d (.int .i64 0))) [0]]) (.seq (.reg false [om_ 11 1 [],om_ 12 2 [],oo_ 13 (.call 259 [(.t 11),(.t 12)]) [0,1],om_ 10 13 [2],oo_ 14 (.ext (.t 10) 0)
 [3],oo_ 15 (.ext (.t 10) 1) [3],oo_ 8 (.new 303 [(.int .i64 0),(.int .i64 0),.nilsl,.nilsl]) [],on_ (.store 4 (.t 8) (.t 14)) [6,4,2,0,1,2,3,4,6],om_ 9 15 [5,7,0,1,2,3,4,5,6,7]]) (.seq (.seq (.reg false [om_ 16 9 [],oo_
 17 (.bin .neq (.t 16) (.d (.int .i64 0))) [0]]) (.cond (.t 17) (.seq (.reg false [om_ 18 9 [],oo_ 6 (.mv (.d (.bool false))) [],om_ 7 18 [0,1,0,1]]) .ret) .skip)) (.seq (.reg false [om_ 19 0 [],oo_ 20 (.fa 1 (.t 8))
 [],oo_ 21 (.load false 1 (.t 20)) [1],oo_ 22 (.call 164 [(.t 19),(.t 21)]) [0,2],oo_ 23 (.ext (.t 22) 0) [3],oo_ 24 (.ext (.t 22) 1) [3],om_ 6 23 [4,3,0,1,2,3,4,5],om_ 7 24 [5,6,0,1,2,3,4,5,6]]) .ret))))
theorem o_sd : fnOf Tryz.prog o_ie = some (o_if, [.t 6, .t 7], 25, false) := by kernel_rfl

abbrev o_3z : FuncId := 259
def o_c : C := (.seq (.reg false [oo_ 3 (.box 3 (.t 1)) [],oo_ 4 (.new 303 [(.int .i64 0),(.int .i64 0),.nilsl,.nilsl]) [],oo_ 5 (.mv (.d (.int .i64 0))) []]) (.seq (.block 0 (.seq (.reg false [om_ 10 0 [],oo_ 11 (.call 257 [(.t 10)])
 [0],oo_ 12 (.un .not (.t 11)) [1],om_ 9 12 [2,1]]) (.cond (.t 9) (.seq (.reg false [oo_ 13 (.build [(.int .i64 0),(.int .i64 0),.nilsl,.nilsl] []) [],on_ (.store 4 (.t 4) (.t 13)) [0,0],oo_ 5 (.mv (.d (.int .i64 10)))
 [1,0,1]]) .ret) (.seq (.reg false [oo_ 15 (.load false 1 (.t 3)) [],oo_ 16 (.bin .lss (.t 15) (.d (.int .i64 0))) [0],om_ 17 16 [1],og_ 18 (.load false 1 (.t 3)) 17 false [2],og_ 19 (.bin .gtr (.t 18) (.d (.int .i64
 1023))) 17 false [3,2],oo_ 20 (.pick (.t 17) (.d (.bool true)) (.t 19)) [2,4],om_ 14 20 [5,2]]) (.cond (.t 14) (.seq (.reg false [oo_ 21 (.build [(.int .i64 0),(.int .i64 0),.nilsl,.nilsl] []) [],on_ (.store 4 (.t 4)
 (.t 21)) [0,0],oo_ 5 (.mv (.d (.int .i64 2))) [1,0,1]]) .ret) .skip))))) (.seq (.reg false [oo_ 6 (.new 303 [(.int .i64 0),(.int .i64 0),.nilsl,.nilsl]) []]) (.seq (.seq (.reg false [om_ 22 0 [],oo_ 23 (.call 260 [(.t
 22)]) [0]]) (.block 1 .bad)) (.seq (.reg false [oo_ 30 (.load true 4 (.t 6)) [],on_ (.store 4 (.t 4) (.t 30)) [0,0],oo_ 5 (.mv (.d (.int .i64 0))) [1,0,1]]) .ret)))))
theorem o_7m : fnOf Tryz.prog o_3z = some (o_c, [.cell 4 true 4, .t 5], 31, false) := by kernel_rfl

abbrev n_yu_walk : FuncId := 260
def c_yu_walk : C := (.seq (.reg false [oo_ 1 (.box 3 (.t 0)) [],oo_ 2 (.mv (.d .nilfn)) []]) (.seq (.reg false [oo_ 3 (.mkf (.func 261) [(.t 1)]) [],om_ 2 3 [0,0]]) .ret))
theorem r_yu_walk : fnOf Tryz.prog n_yu_walk = some (c_yu_walk, [.t 2], 4, false) := by kernel_rfl

abbrev o_r : FuncId := 261
def o_n : C := (.seq (.reg false [oo_ 5 (.load false 1 (.t 1)) [],oo_ 6 (.bin .mul (.d (.int .i64 2)) (.t 5)) [0],oo_ 7 (.bin .shl (.d (.int .u64 1)) (.t 6)) [1],oo_ 8 (.bsl 28 1 1 [(.int .u64 0)] [(0,1,(.t 7))]) [2],oo_ 9 (.call 108
 [(.t 8)]) [3],oo_ 10 (.build [(.int .i64 0),(.int .i64 0),.nilsl,.nilsl] [(3,1,(.t 9))]) [4],oo_ 3 (.new 303 [(.int .i64 0),(.int .i64 0),.nilsl,.nilsl]) [],on_ (.store 4 (.t 3) (.t 10)) [6,5,4,0,1,2,3,4,5,6]]) (.seq
 (.reg false [oo_ 4 (.mv (.d (.int .i64 0))) []]) (.block 0 (.loop (.seq (.seq (.reg false [om_ 11 4 [],oo_ 12 (.bin .leq (.t 11) (.d (.int .i64 1023))) [0]]) (.cond (.t 12) .skip (.exit 0))) (.seq (.block 1 (.seq (.seq
 (.reg false [om_ 15 0 [],om_ 16 4 [],oo_ 17 (.load true 4 (.t 3)) [],oo_ 18 (.callv (.t 15) [(.t 16),(.t 17)]) [0,1,2],oo_ 19 (.un .not (.t 18)) [3]]) (.cond (.t 19) .ret .skip)) (.reg false [oo_ 20 (.load true 4 (.t
 3)) [],oo_ 21 (.load false 1 (.t 1)) [],oo_ 22 (.call 262 [(.t 20),(.t 21)]) [0,1],on_ (.store 4 (.t 3) (.t 22)) [2,2,0,1,2]]))) (.reg false [om_ 13 4 [],oo_ 14 (.bin .add (.t 13) (.d (.int .i64 1))) [0],om_ 4 14
 [1,0,1]])))))))
abbrev o_ig : FuncId := 262
def o_ih : C := (.seq (.reg false [oo_ 2 (.box 303 (.t 0)) [],oo_ 4 (.new 303 [(.int .i64 0),(.int .i64 0),.nilsl,.nilsl]) []]) (.seq (.reg true [oo_ 8 (.bsl 28 1 1 [(.int .u64 0)] [(0,1,(.d (.int .u64 1)))]) [],oo_ 9 (.call 108 [(.t
 8)]) [0],oo_ 10 (.fa 1 (.t 2)) [],oo_ 11 (.load false 1 (.t 10)) [2],oo_ 12 (.call 120 [(.t 9),(.t 11)]) [1,3,1],om_ 7 12 [4],oo_ 13 (.ext (.t 7) 0) [5],oo_ 14 (.ext (.t 7) 1) [5],oo_ 5 (.new 47 [.nilsl]) [],on_ (.store
 1 (.t 5) (.t 13)) [8,6,4,0,1,2,3,4,5,6,8],om_ 6 14 [7,9,0,1,2,3,4,5,6,7,8,9]]) (.seq (.reg false [oo_ 15 (.fa 2 (.t 2)) [],oo_ 16 (.load true 1 (.t 15)) [0],oo_ 17 (.load true 1 (.t 5)) [],oo_ 18 (.call 110 [(.t 16),(.t
 17)]) [1,2],oo_ 19 (.fa 2 (.t 2)) [0,1,2,3],on_ (.store 1 (.t 19) (.t 18)) [4,3,3,0,1,2,3]]) (.seq (.seq (.reg false [oo_ 20 (.fa 2 (.t 2)) [],oo_ 21 (.load true 1 (.t 20)) [0],oo_ 22 (.fa 3 (.t 2)) [],oo_ 23 (.load
 true 1 (.t 22)) [2],oo_ 24 (.call 105 [(.t 21),(.t 23)]) [1,3],oo_ 25 (.bin .geq (.t 24) (.d (.int .i64 0))) [4]]) (.cond (.t 25) (.seq (.reg false [oo_ 26 (.fa 0 (.t 2)) [],oo_ 27 (.load false 1 (.t 26)) [0],oo_ 28
 (.bin .add (.t 27) (.d (.int .i64 1))) [1],oo_ 29 (.fa 0 (.t 2)) [0,1,2],on_ (.store 1 (.t 29) (.t 28)) [3,2,0,1,2]]) (.seq (.reg false [om_ 30 1 [],oo_ 31 (.fa 3 (.t 2)) [],oo_ 32 (.load true 1 (.t 31)) [1],oo_ 33
 (.call 263 [(.t 30),(.t 32)]) [0,2],oo_ 34 (.fa 3 (.t 2)) [0,1,2,3],on_ (.store 1 (.t 34) (.t 33)) [4,3,3,0,1,2,3]]) (.reg false [om_ 35 1 [],oo_ 36 (.fa 3 (.t 2)) [],oo_ 37 (.load true 1 (.t 36)) [1],oo_ 38 (.call 264
 [(.t 35),(.t 37)]) [0,2],oo_ 39 (.fa 1 (.t 2)) [0,1,2,3],on_ (.store 1 (.t 39) (.t 38)) [4,3,3,0,1,2,3]]))) .skip)) (.seq (.reg false [oo_ 40 (.load true 4 (.t 2)) [],on_ (.store 4 (.t 4) (.t 40)) [0,0]]) .ret)))))
theorem o_se : fnOf Tryz.prog o_ig = some (o_ih, [.cell 4 true 4], 41, false) := by kernel_rfl

abbrev o_ii : FuncId := 263
def o_ij : C := (.seq (.reg false [oo_ 3 (.box 47 (.t 1)) [],oo_ 4 (.new 47 [.nilsl]) []]) (.seq (.reg false [oo_ 8 (.load true 1 (.t 3)) [],om_ 9 0 [],oo_ 10 (.call 236 [(.t 8),(.t 9)]) [0,1],oo_ 5 (.new 47 [.nilsl]) [],on_ (.store 1
 (.t 5) (.t 10)) [3,2,2,0,1,2,3]]) (.seq (.seq (.reg false [oo_ 12 (.load true 1 (.t 5)) [],om_ 13 0 [],oo_ 14 (.call 120 [(.t 12),(.t 13)]) [0,1],om_ 11 14 [2],oo_ 15 (.ext (.t 11) 0) [3],oo_ 16 (.ext (.t 11) 1) [3],oo_
 6 (.new 47 [.nilsl]) [],on_ (.store 1 (.t 6) (.t 15)) [6,4,2,0,1,2,3,4,6],om_ 7 16 [5,7,0,1,2,3,4,5,6,7]]) (.seq (.reg false [oo_ 17 (.load true 1 (.t 6)) [],oo_ 18 (.load true 1 (.t 3)) [],oo_ 19 (.call 105 [(.t
 17),(.t 18)]) [0,1],oo_ 20 (.bin .lss (.t 19) (.d (.int .i64 0))) [2]]) (.cond (.t 20) (.reg true [oo_ 21 (.load true 1 (.t 5)) [],oo_ 22 (.bsl 28 1 1 [(.int .u64 0)] [(0,1,(.d (.int .u64 1)))]) [],oo_ 23 (.call 108
 [(.t 22)]) [1],oo_ 24 (.call 110 [(.t 21),(.t 23)]) [0,2,2],on_ (.store 1 (.t 5) (.t 24)) [3,3,0,1,2,3]]) .skip))) (.seq (.reg false [oo_ 25 (.load true 1 (.t 3)) [],oo_ 26 (.load true 1 (.t 5)) [],oo_ 27 (.call 110
 [(.t 25),(.t 26)]) [0,1],on_ (.store 1 (.t 4) (.t 27)) [2,2,0,1,2]]) .ret))))
theorem o_sf : fnOf Tryz.prog o_ii = some (o_ij, [.cell 4 true 1], 28, false) := by kernel_rfl

abbrev o_ik : FuncId := 264
def o_il : C := (.seq (.reg false [oo_ 3 (.box 47 (.t 1)) [],oo_ 4 (.mv (.d (.int .i64 0))) []]) (.seq (.reg false [oo_ 5 (.load true 1 (.t 3)) [],oo_ 6 (.call 201 [(.t 5)]) [0],oo_ 7 (.bin .sub (.t 6) (.d (.int .i64 1))) [1],om_ 8 0
 [],oo_ 9 (.bin .mul (.d (.int .i64 2)) (.t 8)) [3],oo_ 10 (.bin .sub (.t 7) (.t 9)) [2,4],oo_ 11 (.mm true [(.d (.int .i64 0)),(.t 10)]) [5],om_ 4 11 [6,1,0,1,2,3,4,5,6]]) .ret))
theorem o_sg : fnOf Tryz.prog o_ik = some (o_il, [.t 4], 12, false) := by kernel_rfl

abbrev o_im : FuncId := 149
theorem o_sh : Tryz.prog.funcs[o_im]? = some Tryz.f149 := Tryz.func149
abbrev o_in : FuncId := 234
theorem o_si : Tryz.prog.funcs[o_in]? = some Tryz.f234 := Tryz.func234
end
end Go.Proofs.YtijbgbpjionfjaaGreatDoor.Am
