/- Parts of the proof: CodeD, WordsM, Nat1, Nat2, Nat3. -/
import Derived.Test.YtdklbnemfelpnaaGreatDoorPb
set_option linter.unusedVariables false
set_option linter.unusedSimpArgs false
set_option maxRecDepth 100000
namespace Go.Proofs.YtdklbnemfelpnaaGreatDoor.Am
section
open Go.Proofs.YtdklbnemfelpnaaGreatDoor.Am
theorem mix : Tryz.prog.follows .mixedOrders = true := by kernel_rfl
@[simp] def om_ (d s : Nat) (l : List Nat) : O := ⟨some d, .mv (.t s), none, l⟩
@[simp] def oo_ (d : Nat) (a : A) (l : List Nat) : O := ⟨some d, a, none, l⟩
@[simp] def og_ (d : Nat) (a : A) (s : Nat) (b : Bool) (l : List Nat) : O := ⟨some d, a, some (s, b), l⟩
@[simp] def on_ (a : A) (l : List Nat) : O := ⟨none, a, none, l⟩

abbrev t_nat_Nat : Nat := 25
abbrev t_tape_Tape : Nat := 143
abbrev o_5c : FuncId := 5
def o_5d : C := (.seq (.reg false [oo_ 3 (.box 70 (.t 0)) [],oo_ 6 (.mv (.d (.bool false))) []]) (.seq (.seq (.reg false [oo_ 21 (.call 29 []) [],oo_ 22 (.un .not (.t 21)) [0]]) (.cond (.t 22) (.seq (.reg false [oo_ 6 (.mv (.d (.bool
 false))) []]) .ret) .skip)) (.seq (.reg false [oo_ 7 (.mv (.d .nilsl)) []]) (.seq (.seq (.reg false [oo_ 23 (.mv (.d (.int .i64 0))) []]) (.block 0 (.loop (.seq (.reg false [oo_ 24 (.bin .lss (.t 23) (.d (.int .i64
 300))) []]) (.seq (.cond (.t 24) .skip (.exit 0)) (.seq (.block 1 (.seq (.reg false [om_ 25 23 [],om_ 8 25 [0,0]]) (.reg false [om_ 26 7 [],om_ 27 8 [],oo_ 28 (.bin .rem (.t 27) (.d (.int .i64 4))) [1],oo_ 29 (.bin .neq
 (.t 28) (.d (.int .i64 1))) [2],oo_ 30 (.bsl 4 1 1 [(.bool false)] [(0,1,(.t 29))]) [3],oo_ 31 (.app 4 1 1 (.t 26) (.t 30)) [0,4],om_ 7 31 [5,5,0,1,2,3,4,5]]))) (.reg false [oo_ 32 (.bin .add (.t 23) (.d (.int .i64 1)))
 [],om_ 23 32 [0]]))))))) (.seq (.reg true [oo_ 33 (.load true 6 (.t 3)) [],om_ 34 1 [],om_ 35 7 [],oo_ 36 (.call 31 [(.t 35)]) [2],oo_ 37 (.call 30 [(.t 33),(.t 34),(.t 36)]) [0,1,3,3],om_ 9 37 [4,4,0,1,2,3,4]]) (.seq
 (.seq (.reg false [om_ 38 9 [],oo_ 39 (.pnl false (.t 38)) [0]]) (.cond (.t 39) (.seq (.reg false [oo_ 6 (.mv (.d (.bool false))) []]) .ret) .skip)) (.seq (.reg false [oo_ 10 (.new 78 [.nilsl,(.int .i64 0)]) []]) (.seq
 (.reg false [om_ 40 9 [],oo_ 41 (.call 32 [(.t 40),(.t 10)]) [0]]) (.seq (.reg false [oo_ 43 (.call 35 [(.t 10)]) [],oo_ 44 (.call 34 [(.t 43)]) [0,0],om_ 45 9 [],oo_ 46 (.call 36 [(.t 45)]) [2,1],oo_ 47 (.call 33 [(.t
 44),(.t 46)]) [1,3,3],om_ 42 47 [4],oo_ 48 (.ext (.t 42) 0) [5],oo_ 49 (.ext (.t 42) 1) [5],om_ 11 48 [6,4,0,1,2,3,4,5,6],om_ 12 49 [7,8,0,1,2,3,4,5,6,7,8]]) (.seq (.seq (.reg false [om_ 50 12 [],oo_ 51 (.bin .neq (.t
 50) (.d (.int .i64 0))) [0],om_ 52 51 [1],og_ 53 (.mv (.t 11)) 52 false [2],og_ 54 (.mv (.t 9)) 52 false [2],og_ 55 (.call 37 [(.t 53),(.t 54)]) 52 false [3,4,2,2],og_ 56 (.un .not (.t 55)) 52 false [5,2],oo_ 57 (.pick
 (.t 52) (.d (.bool true)) (.t 56)) [2,6],om_ 58 57 [7,5],og_ 59 (.mv (.t 11)) 58 false [8],og_ 60 (.call 38 [(.t 59)]) 58 false [9,8,8],og_ 61 (.mv (.t 9)) 58 false [8],og_ 62 (.call 38 [(.t 61)]) 58 false [11,10,8],og_
 63 (.bin .neq (.t 60) (.t 62)) 58 false [10,12,8],oo_ 64 (.pick (.t 58) (.d (.bool true)) (.t 63)) [8,13]]) (.cond (.t 64) (.seq (.reg false [oo_ 6 (.mv (.d (.bool false))) []]) .ret) .skip)) (.seq (.seq (.reg false
 [om_ 65 2 [],oo_ 66 (.len (.t 65)) [0],oo_ 67 (.bin .gtr (.t 66) (.d (.int .i64 300))) [1]]) (.cond (.t 67) (.reg false [om_ 68 2 [],oo_ 69 (.slice 1 (.t 68) none (some (.d (.int .i64 300))) none) [0],om_ 2 69 [1,0,1]])
 .skip)) (.seq (.reg false [om_ 70 2 [],oo_ 71 (.call 34 [(.t 70)]) [0],om_ 13 71 [1,1,0,1]]) (.seq (.reg false [om_ 73 13 [],om_ 74 9 [],oo_ 75 (.call 36 [(.t 74)]) [1],oo_ 76 (.call 33 [(.t 73),(.t 75)]) [0,2,2],om_ 72
 76 [3],oo_ 77 (.ext (.t 72) 0) [4],oo_ 78 (.ext (.t 72) 1) [4],om_ 14 77 [5,3,0,1,2,3,4,5],om_ 12 78 [6,7,0,1,2,3,4,5,6,7]]) (.seq (.seq (.reg false [om_ 79 12 [],oo_ 80 (.bin .neq (.t 79) (.d (.int .i64 0))) [0]])
 (.cond (.t 80) (.seq (.reg false [om_ 81 14 [],oo_ 82 (.pnl false (.t 81)) [0],om_ 83 82 [1],og_ 84 (.mv (.t 12)) 83 true [2],og_ 85 (.bin .eql (.t 84) (.d (.int .i64 5))) 83 true [3,2],og_ 86 (.mv (.t 85)) 83 true
 [4,2,2],og_ 87 (.mv (.t 12)) 86 false [5],og_ 88 (.bin .eql (.t 87) (.d (.int .i64 4))) 86 false [6,5],og_ 89 (.pick (.t 86) (.d (.bool true)) (.t 88)) 83 true [5,7,2],oo_ 90 (.pick (.t 83) (.t 89) (.d (.bool false)))
 [2,8],om_ 6 90 [9,5,0,1,2,3,4,5,6,7,8,9]]) .ret) .skip)) (.seq (.reg false [oo_ 15 (.new 78 [.nilsl,(.int .i64 0)]) []]) (.seq (.reg false [om_ 91 14 [],oo_ 92 (.call 32 [(.t 91),(.t 15)]) [0]]) (.seq (.reg false [om_
 93 2 [],oo_ 94 (.call 34 [(.t 93)]) [0],om_ 16 94 [1,1,0,1]]) (.seq (.seq (.reg false [oo_ 95 (.call 39 [(.t 15)]) [],oo_ 96 (.len (.t 95)) [0],oo_ 97 (.mv (.d (.int .i64 0))) []]) (.block 2 (.loop (.seq (.reg false
 [oo_ 98 (.bin .lss (.t 97) (.t 96)) []]) (.seq (.cond (.t 98) .skip (.exit 2)) (.seq (.block 3 (.seq (.reg false [oo_ 99 (.ix 1 (.t 95) (.t 97)) [],oo_ 100 (.load false 1 (.t 99)) [0],om_ 18 100 [1,0,1]]) (.seq (.reg
 false [om_ 102 16 [],oo_ 103 (.call 40 [(.t 102)]) [0],om_ 101 103 [1],oo_ 104 (.ext (.t 101) 0) [2],oo_ 105 (.ext (.t 101) 1) [2],om_ 19 104 [3,1,0,1,2,3],om_ 20 105 [4,5,0,1,2,3,4,5]]) (.seq (.reg false [om_ 106 20
 [],oo_ 107 (.bin .neq (.t 106) (.d (.int .i64 0))) [0],om_ 108 107 [1],og_ 109 (.mv (.t 19)) 108 false [2],og_ 110 (.mv (.t 18)) 108 false [2],og_ 111 (.beq true (.t 109) (.t 110)) 108 false [3,4,2],oo_ 112 (.pick (.t
 108) (.d (.bool true)) (.t 111)) [2,5]]) (.cond (.t 112) (.seq (.reg false [oo_ 6 (.mv (.d (.bool false))) []]) .ret) .skip))))) (.reg false [oo_ 113 (.bin .add (.t 97) (.d (.int .i64 1))) [],om_ 97 113 [0]])))))))
 (.seq (.reg false [om_ 114 16 [],oo_ 115 (.call 41 [(.t 114)]) [0],om_ 116 13 [],oo_ 117 (.call 41 [(.t 116)]) [2,1],oo_ 118 (.bin .eql (.t 115) (.t 117)) [1,3],om_ 6 118 [4,3,0,1,2,3,4]]) .ret)))))))))))))))))))
theorem o_5e : fnOf Tryz.prog o_5c = some (o_5d, [.t 6], 119, false) := by kernel_rfl

abbrev o_5f : FuncId := 10
def o_5g : C := (.seq (.reg false [oo_ 2 (.mv (.d (.bool false))) []]) (.seq (.reg false [om_ 3 0 [],oo_ 4 (.bin .geq (.t 3) (.d (.int .i64 1))) [0],om_ 5 4 [1],og_ 6 (.mv (.t 0)) 5 true [2],og_ 7 (.bin .leq (.t 6) (.d (.int .i64
 4096))) 5 true [3,2],oo_ 8 (.pick (.t 5) (.t 7) (.d (.bool false))) [2,4],om_ 2 8 [5,2,0,1,2,3,4,5]]) .ret))
theorem o_5h : fnOf Tryz.prog o_5f = some (o_5g, [.t 2], 9, false) := by kernel_rfl

abbrev o_5i : FuncId := 11
def o_5j : C := (.seq (.reg false [oo_ 1 (.box 29 (.t 0)) [],⟨some 2,.mv (.d (.str ⟨#[]⟩)),none,[]⟩]) (.seq (.seq (.reg false [oo_ 3 (.load true 3 (.t 1)) [],oo_ 4 (.call 46 [(.t 3)]) [0]]) (.cond (.t 4) (.seq (.reg false [oo_ 5 (.fa 0
 (.t 1)) [],oo_ 6 (.load true 2 (.t 5)) [0],oo_ 7 (.call 47 [(.t 6)]) [1],om_ 2 7 [2,2,0,1,2]]) .ret) .skip)) (.seq (.reg true [oo_ 8 (.fa 0 (.t 1)) [],oo_ 9 (.load true 2 (.t 8)) [0],oo_ 10 (.call 47 [(.t 9)]) [1],⟨some
 11,.bin .add (.t 10) (.d (.str ⟨#[47]⟩)),none,[2]⟩,oo_ 12 (.load true 3 (.t 1)) [],oo_ 13 (.call 48 [(.t 12)]) [4,2],oo_ 14 (.call 49 [(.t 13)]) [5,5],oo_ 15 (.bin .add (.t 11) (.t 14)) [3,6],om_ 2 15
 [7,6,0,1,2,3,4,5,6,7]]) .ret)))
theorem o_5k : fnOf Tryz.prog o_5i = some (o_5j, [.t 2], 16, false) := by kernel_rfl

abbrev o_5l : FuncId := 24
def o_5m : C := (.seq (.reg false [oo_ 4 (.box 52 (.t 0)) [],oo_ 5 (.box 57 (.t 1)) [],oo_ 6 (.box 59 (.t 2)) [],oo_ 8 (.new 59 [(.int .i64 0),(.bool false)]) [],oo_ 9 (.mv (.d (.int .i64 0))) []]) (.seq (.seq (.reg false [oo_ 14
 (.load true 3 (.t 4)) [],oo_ 15 (.fa 0 (.t 6)) [],oo_ 16 (.load false 1 (.t 15)) [1],oo_ 17 (.bsl 3 1 1 [(.int .i64 0)] [(0,1,(.t 16))]) [2],oo_ 18 (.call 69 [(.t 14),(.t 17)]) [0,3],om_ 10 18 [4,4,0,1,2,3,4]]) (.seq
 (.reg false [om_ 19 10 [],oo_ 20 (.bin .neq (.t 19) (.d (.int .i64 0))) [0]]) (.cond (.t 20) (.seq (.reg false [oo_ 21 (.load true 2 (.t 6)) [],om_ 22 10 [],on_ (.store 2 (.t 8) (.t 21)) [0,0],om_ 9 22 [1,2,0,1,2]])
 .ret) .skip))) (.seq (.seq (.reg false [om_ 23 3 [],oo_ 24 (.bin .gtr (.t 23) (.d (.int .i64 1048576))) [0]]) (.cond (.t 24) (.seq (.reg false [oo_ 25 (.load true 2 (.t 6)) [],on_ (.store 2 (.t 8) (.t 25)) [0,0],oo_ 9
 (.mv (.d (.int .i64 2))) [1,0,1]]) .ret) .skip)) (.seq (.reg false [oo_ 26 (.load true 3 (.t 4)) [],oo_ 27 (.call 70 [(.t 26)]) [0],oo_ 11 (.new 118 [.nilifc]) [],on_ (.store 1 (.t 11) (.t 27)) [2,1,1,0,1,2]]) (.seq
 (.reg false [oo_ 28 (.load true 2 (.t 6)) [],oo_ 12 (.new 59 [(.int .i64 0),(.bool false)]) [],on_ (.store 2 (.t 12) (.t 28)) [1,0,0,1],oo_ 13 (.mv (.d (.int .i64 0))) [2,0,1,2]]) (.seq (.seq (.reg false [om_ 29 3
 [],oo_ 30 (.mm true [(.d (.int .i64 0)),(.t 29)]) [0],oo_ 31 (.mv (.d (.int .i64 0))) []]) (.block 0 (.loop (.seq (.reg false [oo_ 32 (.bin .lss (.t 31) (.t 30)) []]) (.seq (.cond (.t 32) .skip (.exit 0)) (.seq (.block
 1 (.seq (.reg false [oo_ 34 (.load true 3 (.t 4)) [],oo_ 35 (.load true 2 (.t 12)) [],oo_ 36 (.mkf (.func 72) [(.t 11),(.t 5)]) [],oo_ 37 (.call 71 [(.t 34),(.t 35),(.t 36)]) [0,1,2],om_ 33 37 [3],oo_ 38 (.ext (.t 33)
 0) [4],oo_ 39 (.ext (.t 33) 1) [4],on_ (.store 2 (.t 12) (.t 38)) [5,3,0,1,2,3,4,5],om_ 13 39 [6,7,0,1,2,3,4,5,6,7]]) (.seq (.seq (.reg false [om_ 40 13 [],oo_ 41 (.bin .neq (.t 40) (.d (.int .i64 0))) [0]]) (.cond (.t
 41) (.seq (.reg false [oo_ 42 (.load true 2 (.t 6)) [],om_ 43 13 [],on_ (.store 2 (.t 8) (.t 42)) [0,0],om_ 9 43 [1,2,0,1,2]]) .ret) .skip)) (.seq (.reg true [oo_ 44 (.fa 1 (.t 12)) [],oo_ 45 (.load false 1 (.t 44))
 [0],om_ 46 45 [1],og_ 47 (.fa 0 (.t 12)) 46 true [2],og_ 48 (.load false 1 (.t 47)) 46 true [3,2],og_ 49 (.load true 3 (.t 4)) 46 true [2],og_ 50 (.call 67 [(.t 49)]) 46 true [5,2,2],og_ 51 (.bin .eql (.t 48) (.t 50))
 46 true [4,6,2],oo_ 52 (.pick (.t 46) (.t 51) (.d (.bool false))) [2,7]]) (.cond (.t 52) (.exit 0) .skip))))) (.reg false [oo_ 53 (.bin .add (.t 31) (.d (.int .i64 1))) [],om_ 31 53 [0]]))))))) (.seq (.reg false [oo_ 54
 (.load true 2 (.t 12)) [],on_ (.store 2 (.t 8) (.t 54)) [0,0],oo_ 9 (.mv (.d (.int .i64 0))) [1,0,1]]) .ret)))))))
theorem o_5n : fnOf Tryz.prog o_5l = some (o_5m, [.cell 8 true 2, .t 9], 55, false) := by kernel_rfl

abbrev o_5o : FuncId := 29
def o_5p : C := (.seq (.reg false [oo_ 0 (.mv (.d (.bool false))) []]) (.seq (.reg false [oo_ 6 (.build [(.int .i64 0),(.int .i64 0),(.int .i64 0)] [(0,1,(.d (.int .i64 2))),(1,1,(.d (.int .i64 3))),(2,1,(.d (.int .i64 4)))]) [],oo_ 7
 (.build [(.int .i64 0),(.int .i64 0),(.int .i64 0),(.int .i64 0),(.int .i64 0)] [(0,1,(.d (.int .i64 1))),(1,1,(.d (.int .i64 1))),(2,3,(.t 6))]) [0],oo_ 8 (.build [(.int .u64 0),(.int .u64 0)] [(0,1,(.d (.int .u64
 1)))]) [],oo_ 9 (.bsl 131 2 1 [(.int .u64 0),(.int .u64 0)] [(0,2,(.t 8))]) [2],oo_ 10 (.call 79 [(.t 7),(.t 9)]) [1,3],om_ 5 10 [4],oo_ 11 (.ext (.t 5) 0) [5],oo_ 12 (.ext (.t 5) 1) [5],om_ 1 11 [6,4,0,1,2,3,4,5,6],om_
 2 12 [7,8,0,1,2,3,4,5,6,7,8]]) (.seq (.seq (.reg false [om_ 13 2 [],oo_ 14 (.bin .neq (.t 13) (.d (.int .i64 0))) [0],om_ 15 14 [1],og_ 16 (.mv (.t 1)) 15 false [2],og_ 17 (.pnl false (.t 16)) 15 false [3,2],oo_ 18
 (.pick (.t 15) (.d (.bool true)) (.t 17)) [2,4],om_ 19 18 [5,2],og_ 20 (.mv (.t 1)) 19 false [6],og_ 21 (.call 31 [(.d .nilsl)]) 19 false [6,6],og_ 22 (.call 80 [(.t 20),(.t 21),(.d (.int .u64 5)),(.d (.int .i64 3))])
 19 false [7,8,8,6],og_ 23 (.bin .neq (.t 22) (.d (.int .i64 0))) 19 false [9,6],oo_ 24 (.pick (.t 19) (.d (.bool true)) (.t 23)) [6,10],om_ 25 24 [11,9],og_ 26 (.mv (.t 1)) 25 false [12],og_ 27 (.call 31 [(.d .nilsl)])
 25 false [12,12],og_ 28 (.call 80 [(.t 26),(.t 27),(.d (.int .u64 9)),(.d (.int .i64 2))]) 25 false [13,14,14,12],og_ 29 (.bin .neq (.t 28) (.d (.int .i64 0))) 25 false [15,12],oo_ 30 (.pick (.t 25) (.d (.bool true))
 (.t 29)) [12,16]]) (.cond (.t 30) (.seq (.reg false [oo_ 0 (.mv (.d (.bool false))) []]) .ret) .skip)) (.seq (.reg false [om_ 32 1 [],oo_ 33 (.call 81 [(.t 32),(.d (.int .u64 77))]) [0],om_ 31 33 [1],oo_ 34 (.ext (.t
 31) 0) [2],oo_ 35 (.ext (.t 31) 1) [2],oo_ 3 (.new 29 [.nilsl,(.bool false),.nilsl]) [],on_ (.store 3 (.t 3) (.t 34)) [5,3,1,0,1,2,3,5],om_ 4 35 [4,6,0,1,2,3,4,5,6]]) (.seq (.reg false [om_ 36 4 [],oo_ 37 (.bin .eql (.t
 36) (.d (.int .i64 0))) [0],om_ 38 37 [1],og_ 39 (.load true 3 (.t 3)) 38 true [2],og_ 40 (.call 11 [(.t 39)]) 38 true [3,2,2],⟨some 41,.bin .eql (.t 40) (.d (.str ⟨#[53]⟩)),some (38,true),[4,2]⟩,oo_ 42 (.pick (.t 38)
 (.t 41) (.d (.bool false))) [2,5],om_ 43 42 [6,4],og_ 44 (.mv (.t 1)) 43 true [7],og_ 45 (.call 38 [(.t 44)]) 43 true [8,7,7],og_ 46 (.bin .eql (.t 45) (.d (.int .i64 5))) 43 true [9,7],oo_ 47 (.pick (.t 43) (.t 46) (.d
 (.bool false))) [7,10],om_ 0 47 [11,9,0,1,2,3,4,5,6,7,8,9,10,11]]) .ret)))))
theorem o_5q : fnOf Tryz.prog o_5o = some (o_5p, [.t 0], 48, false) := by kernel_rfl

abbrev o_5r : FuncId := 30
def o_5s : C := (.seq (.reg false [oo_ 3 (.box 70 (.t 0)) [],oo_ 6 (.mv (.d .nilp)) []]) (.seq (.reg true [oo_ 11 (.load true 6 (.t 3)) [],oo_ 12 (.call 82 [(.t 11)]) [0],oo_ 13 (.load true 6 (.t 3)) [],oo_ 14 (.call 83 [(.t 13)])
 [2,1],oo_ 15 (.call 79 [(.t 12),(.t 14)]) [1,3,3],om_ 10 15 [4],oo_ 16 (.ext (.t 10) 0) [5],oo_ 17 (.ext (.t 10) 1) [5],om_ 7 16 [6,4,0,1,2,3,4,5,6],om_ 8 17 [7,8,0,1,2,3,4,5,6,7,8]]) (.seq (.seq (.reg false [om_ 18 8
 [],oo_ 19 (.bin .neq (.t 18) (.d (.int .i64 0))) [0],om_ 20 19 [1],og_ 21 (.mv (.t 7)) 20 false [2],og_ 22 (.pnl false (.t 21)) 20 false [3,2],oo_ 23 (.pick (.t 20) (.d (.bool true)) (.t 22)) [2,4]]) (.cond (.t 23)
 (.seq (.reg false [oo_ 6 (.mv (.d .nilp)) []]) .ret) .skip)) (.seq (.seq (.reg false [oo_ 9 (.mv (.d (.int .i64 0))) []]) (.block 0 (.loop (.seq (.seq (.reg false [om_ 24 9 [],om_ 25 1 [],oo_ 26 (.len (.t 25)) [1],oo_
 27 (.bin .lss (.t 24) (.t 26)) [0,2],om_ 28 27 [3],og_ 29 (.mv (.t 9)) 28 true [4],og_ 30 (.bin .lss (.t 29) (.d (.int .i64 12))) 28 true [5,4],oo_ 31 (.pick (.t 28) (.t 30) (.d (.bool false))) [4,6]]) (.cond (.t 31)
 .skip (.exit 0))) (.seq (.block 1 (.reg true [om_ 34 7 [],om_ 35 2 [],om_ 36 1 [],om_ 37 9 [],oo_ 38 (.ix 2 (.t 36) (.t 37)) [2,3],oo_ 39 (.load true 2 (.t 38)) [4],oo_ 40 (.call 84 [(.t 39)]) [5],om_ 41 1 [],om_ 42 9
 [],oo_ 43 (.ix 2 (.t 41) (.t 42)) [7,8],oo_ 44 (.fa 1 (.t 43)) [9],oo_ 45 (.load false 1 (.t 44)) [10],oo_ 46 (.bin .and (.t 45) (.d (.int .i64 7))) [11],oo_ 47 (.call 80 [(.t 34),(.t 35),(.t 40),(.t 46)])
 [0,1,6,12,6]])) (.reg false [om_ 32 9 [],oo_ 33 (.bin .add (.t 32) (.d (.int .i64 1))) [0],om_ 9 33 [1,0,1]])))))) (.seq (.reg false [om_ 48 7 [],om_ 6 48 [0,0]]) .ret)))))
theorem o_5t : fnOf Tryz.prog o_5r = some (o_5s, [.t 6], 49, false) := by kernel_rfl

abbrev o_5u : FuncId := 31
def o_5v : C := (.seq (.reg false [oo_ 2 (.mv (.d .nilp)) []]) (.seq (.reg false [om_ 3 0 [],om_ 4 0 [],oo_ 5 (.len (.t 4)) [1],oo_ 6 (.mm false [(.t 5),(.d (.int .i64 1048576))]) [2],oo_ 7 (.slice 1 (.t 3) none (some (.t 6)) none)
 [0,3],oo_ 8 (.call 85 [(.t 7)]) [4],oo_ 9 (.build [(.int .i64 0),(.bool false),.nilsl] [(2,1,(.t 8))]) [5],oo_ 10 (.box 143 (.t 9)) [6],om_ 2 10 [7,5,0,1,2,3,4,5,6,7]]) .ret))
theorem o_5w : fnOf Tryz.prog o_5u = some (o_5v, [.t 2], 11, false) := by kernel_rfl

abbrev o_5x : FuncId := 32
def o_5y : C := (.seq (.reg false [om_ 6 1 [],om_ 7 0 [],oo_ 8 (.chk (.t 7)) [1],oo_ 9 (.fa 6 (.t 8)) [2],oo_ 10 (.load false 1 (.t 9)) [3],oo_ 11 (.conv .u64 (.t 10)) [4],oo_ 12 (.call 86 [(.t 6),(.t 11)]) [0,5]]) (.seq (.reg false
 [om_ 13 0 [],oo_ 14 (.chk (.t 13)) [0],oo_ 15 (.fa 5 (.t 14)) [1],oo_ 16 (.load false 1 (.t 15)) [2],oo_ 17 (.len (.t 16)) [3],oo_ 18 (.mv (.d (.int .i64 0))) []]) (.block 0 (.loop (.seq (.reg false [oo_ 19 (.bin .lss
 (.t 18) (.t 17)) []]) (.seq (.cond (.t 19) .skip (.exit 0)) (.seq (.block 1 (.seq (.reg false [oo_ 20 (.ix 3 (.t 16) (.t 18)) [],oo_ 21 (.load true 3 (.t 20)) [0],oo_ 5 (.new 150 [(.int .u64 0),(.int .u64 0),.nilp])
 [],on_ (.store 3 (.t 5) (.t 21)) [2,1,0,1,2]]) (.seq (.reg false [om_ 22 1 [],oo_ 23 (.fa 0 (.t 5)) [],oo_ 24 (.fa 0 (.t 23)) [1],oo_ 25 (.load false 1 (.t 24)) [2],oo_ 26 (.call 87 [(.t 22),(.t 25),(.d (.int .i64
 61))]) [0,3]]) (.seq (.reg false [om_ 27 1 [],oo_ 28 (.fa 0 (.t 5)) [],oo_ 29 (.fa 1 (.t 28)) [1],oo_ 30 (.load false 1 (.t 29)) [2],oo_ 31 (.call 87 [(.t 27),(.t 30),(.d (.int .i64 61))]) [0,3]]) (.reg false [oo_ 32
 (.fa 2 (.t 5)) [],oo_ 33 (.load false 1 (.t 32)) [0],oo_ 34 (.chk (.t 33)) [1],oo_ 35 (.fa 0 (.t 34)) [2],oo_ 36 (.load false 1 (.t 35)) [3],om_ 37 1 [],oo_ 38 (.call 88 [(.t 36),(.t 37)]) [4,5]]))))) (.reg false [oo_
 39 (.bin .add (.t 18) (.d (.int .i64 1))) [],om_ 18 39 [0]]))))))))
theorem o_5z : fnOf Tryz.prog o_5x = some (o_5y, [], 40, false) := by kernel_rfl

abbrev o_60 : FuncId := 33
def o_61 : C := (.seq (.reg false [oo_ 3 (.box 88 (.t 1)) [],oo_ 4 (.mv (.d .nilp)) [],oo_ 5 (.mv (.d (.int .i64 0))) [1]]) (.seq (.seq (.reg false [oo_ 15 (.load true 5 (.t 3)) [],oo_ 16 (.call 89 [(.t 15)]) [0],om_ 6 16 [1,1,0,1]])
 (.seq (.reg false [om_ 17 6 [],oo_ 18 (.bin .neq (.t 17) (.d (.int .i64 0))) [0]]) (.cond (.t 18) (.seq (.reg false [om_ 19 6 [],oo_ 4 (.mv (.d .nilp)) [],om_ 5 19 [0,1,0,1]]) .ret) .skip))) (.seq (.reg false [om_ 21 0
 [],oo_ 22 (.call 90 [(.t 21)]) [0],om_ 20 22 [1],oo_ 23 (.ext (.t 20) 0) [2],oo_ 24 (.ext (.t 20) 1) [2],om_ 7 23 [3,1,0,1,2,3],om_ 8 24 [4,5,0,1,2,3,4,5]]) (.seq (.block 0 (.seq (.reg false [om_ 26 8 [],oo_ 27 (.bin
 .neq (.t 26) (.d (.int .i64 0))) [0],om_ 25 27 [1]]) (.cond (.t 25) (.seq (.reg false [om_ 28 8 [],oo_ 4 (.mv (.d .nilp)) [],om_ 5 28 [0,1,0,1]]) .ret) (.seq (.reg false [om_ 30 7 [],oo_ 31 (.bin .gtr (.t 30) (.d (.int
 .u64 1099511627776))) [0],om_ 29 31 [1]]) (.cond (.t 29) (.seq (.reg false [oo_ 4 (.mv (.d .nilp)) [],oo_ 5 (.mv (.d (.int .i64 4))) [0,0]]) .ret) .skip))))) (.seq (.reg false [oo_ 32 (.load true 5 (.t 3)) [],om_ 33 7
 [],oo_ 34 (.conv .i64 (.t 33)) [1],oo_ 35 (.build [(.int .i64 0),(.int .i64 0),(.int .i64 0),(.int .i64 0),(.int .i64 0),.nilsl,(.int .i64 0)] [(0,5,(.t 32)),(6,1,(.t 34))]) [0,2],oo_ 36 (.box 147 (.t 35)) [3],om_ 9 36
 [4,0,1,2,3,4]]) (.seq (.seq (.reg false [oo_ 37 (.fa 0 (.t 3)) [],oo_ 38 (.load false 1 (.t 37)) [0],oo_ 39 (.mv (.d (.int .i64 0))) []]) (.block 1 (.loop (.seq (.reg false [oo_ 40 (.bin .lss (.t 39) (.t 38)) []]) (.seq
 (.cond (.t 40) .skip (.exit 1)) (.seq (.block 2 (.seq (.reg false [oo_ 10 (.new 131 [(.int .u64 0),(.int .u64 0)]) []]) (.seq (.seq (.reg false [oo_ 41 (.fa 0 (.t 10)) [],oo_ 42 (.fa 1 (.t 10)) [],oo_ 43 (.build
 [.nilp,.nilp] [(0,1,(.t 41)),(1,1,(.t 42))]) [0,1],oo_ 44 (.mv (.d (.int .i64 0))) []]) (.block 3 (.loop (.seq (.reg false [oo_ 45 (.bin .lss (.t 44) (.d (.int .i64 2))) []]) (.seq (.cond (.t 45) .skip (.exit 3)) (.seq
 (.block 4 (.seq (.reg false [oo_ 46 (.ixv 2 1 false (.t 43) (.t 44)) [],om_ 12 46 [0,0]]) (.seq (.reg false [om_ 48 12 [],om_ 49 0 [],oo_ 50 (.call 91 [(.t 49),(.d (.int .i64 61))]) [1],om_ 47 50 [2],oo_ 51 (.ext (.t
 47) 0) [3],oo_ 52 (.ext (.t 47) 1) [3],oo_ 53 (.chk (.t 48)) [0,0,1,2,3,4],on_ (.store 1 (.t 53) (.t 51)) [6,4,2,0,1,2,3,4],om_ 8 52 [5,7,0,1,2,3,4,5,6,7]]) (.seq (.reg false [om_ 54 8 [],oo_ 55 (.bin .neq (.t 54) (.d
 (.int .i64 0))) [0]]) (.cond (.t 55) (.seq (.reg false [om_ 56 8 [],oo_ 4 (.mv (.d .nilp)) [],om_ 5 56 [0,1,0,1]]) .ret) .skip))))) (.reg false [oo_ 57 (.bin .add (.t 44) (.d (.int .i64 1))) [],om_ 44 57 [0]])))))))
 (.seq (.seq (.reg false [oo_ 58 (.load true 2 (.t 10)) [],oo_ 59 (.call 92 [(.t 58)]) [0],oo_ 60 (.bin .neq (.t 59) (.d (.int .i64 0))) [1]]) (.cond (.t 60) (.seq (.reg false [oo_ 4 (.mv (.d .nilp)) [],oo_ 5 (.mv (.d
 (.int .i64 4))) [0,0]]) .ret) .skip)) (.seq (.reg false [om_ 62 0 [],oo_ 63 (.fa 2 (.t 3)) [],oo_ 64 (.load true 3 (.t 63)) [1],oo_ 65 (.fa 1 (.t 3)) [],oo_ 66 (.load false 1 (.t 65)) [3],oo_ 67 (.call 93 [(.t 62),(.t
 64),(.t 66)]) [0,2,4],om_ 61 67 [5],oo_ 68 (.ext (.t 61) 0) [6],oo_ 69 (.ext (.t 61) 1) [6],om_ 13 68 [7,5,0,1,2,3,4,5,6,7],om_ 14 69 [8,9,0,1,2,3,4,5,6,7,8,9]]) (.seq (.seq (.reg false [om_ 70 14 [],oo_ 71 (.bin .neq
 (.t 70) (.d (.int .i64 0))) [0]]) (.cond (.t 71) (.seq (.reg false [om_ 72 14 [],oo_ 4 (.mv (.d .nilp)) [],om_ 5 72 [0,1,0,1]]) .ret) .skip)) (.reg true [om_ 73 9 [],om_ 74 9 [],oo_ 75 (.chk (.t 74)) [1],oo_ 76 (.fa 5
 (.t 75)) [2],oo_ 77 (.load false 1 (.t 76)) [3],oo_ 78 (.load true 2 (.t 10)) [],om_ 79 13 [],oo_ 80 (.build [(.int .u64 0),(.int .u64 0),.nilp] [(0,2,(.t 78)),(2,1,(.t 79))]) [5,6],oo_ 81 (.bsl 150 3 1 [(.int .u64
 0),(.int .u64 0),.nilp] [(0,3,(.t 80))]) [7],oo_ 82 (.app 150 3 24 (.t 77) (.t 81)) [4,8],oo_ 83 (.chk (.t 73)) [0,0,1,2,3,4,5,6,7,8,9],oo_ 84 (.fa 5 (.t 83)) [10,0,1,2,3,4,5,6,7,8,9],on_ (.store 1 (.t 84) (.t 82))
 [11,9,9,0,1,2,3,4,5,6,7,8,9]]))))))) (.reg false [oo_ 85 (.bin .add (.t 39) (.d (.int .i64 1))) [],om_ 39 85 [0]]))))))) (.seq (.reg false [om_ 86 9 [],om_ 4 86 [0,0],oo_ 5 (.mv (.d (.int .i64 0))) [1,0,1]]) .ret)))))))
theorem o_62 : fnOf Tryz.prog o_60 = some (o_61, [.t 4, .t 5], 87, false) := by kernel_rfl

abbrev o_63 : FuncId := 34
def o_64 : C := (.seq (.reg false [oo_ 2 (.mv (.d .nilp)) []]) (.seq (.reg false [om_ 3 0 [],oo_ 4 (.call 94 [(.t 3)]) [0],oo_ 5 (.build [.nilsl,(.int .i64 0)] [(0,1,(.t 4))]) [1],oo_ 6 (.box 164 (.t 5)) [2],om_ 2 6 [3,1,0,1,2,3]])
 .ret))
theorem o_65 : fnOf Tryz.prog o_63 = some (o_64, [.t 2], 7, false) := by kernel_rfl

abbrev o_66 : FuncId := 35
def o_67 : C := (.seq (.reg false [oo_ 2 (.mv (.d .nilsl)) []]) (.seq (.reg false [om_ 4 0 [],oo_ 5 (.chk (.t 4)) [0],oo_ 6 (.fa 0 (.t 5)) [1],oo_ 7 (.load false 1 (.t 6)) [2],oo_ 8 (.len (.t 7)) [3],oo_ 9 (.mksl 5 1 1 [(.int .u8 0)]
 (.t 8) (.t 8)) [4,4],om_ 3 9 [5,0,1,2,3,4,5]]) (.seq (.reg false [om_ 10 3 [],om_ 11 0 [],oo_ 12 (.chk (.t 11)) [1],oo_ 13 (.fa 0 (.t 12)) [2],oo_ 14 (.load false 1 (.t 13)) [3],oo_ 15 (.cpy 1 (.t 10) (.t 14)) [0,4]])
 (.seq (.reg false [om_ 16 3 [],om_ 2 16 [0,0]]) .ret))))
theorem o_68 : fnOf Tryz.prog o_66 = some (o_67, [.t 2], 17, false) := by kernel_rfl

abbrev o_69 : FuncId := 36
def o_6a : C := (.seq (.reg false [oo_ 2 (.new 88 [(.int .i64 0),(.int .i64 0),(.int .i64 0),(.int .i64 0),(.int .i64 0)]) []]) (.seq (.reg false [om_ 3 0 [],oo_ 4 (.chk (.t 3)) [0],oo_ 5 (.fa 0 (.t 4)) [1],oo_ 6 (.load true 5 (.t 5))
 [2],on_ (.store 5 (.t 2) (.t 6)) [3,0,1,2,3]]) .ret))
theorem o_6b : fnOf Tryz.prog o_69 = some (o_6a, [.cell 2 true 5], 7, false) := by kernel_rfl

abbrev o_6c : FuncId := 37
def o_6d : C := (.seq (.reg false [oo_ 4 (.mv (.d (.bool false))) []]) (.seq (.reg false [oo_ 5 (.mv (.fn 95)) []]) (.seq (.reg true [om_ 6 0 [],om_ 7 1 [],oo_ 8 (.call 97 [(.t 6),(.t 7)]) [0,1],om_ 9 8 [2,2],og_ 10 (.mv (.t 0)) 9 true
 [3],og_ 11 (.chk (.t 10)) 9 true [4,3],og_ 12 (.fa 6 (.t 11)) 9 true [5,3],og_ 13 (.load false 1 (.t 12)) 9 true [6,3],og_ 14 (.mv (.t 1)) 9 true [3],og_ 15 (.chk (.t 14)) 9 true [8,3],og_ 16 (.fa 6 (.t 15)) 9 true
 [9,3],og_ 17 (.load false 1 (.t 16)) 9 true [10,3],og_ 18 (.bin .eql (.t 13) (.t 17)) 9 true [7,11,3],oo_ 19 (.pick (.t 9) (.t 18) (.d (.bool false))) [3,12],om_ 20 19 [13,3],og_ 21 (.mv (.t 0)) 20 true [14],og_ 22
 (.chk (.t 21)) 20 true [15,14],og_ 23 (.fa 5 (.t 22)) 20 true [16,14],og_ 24 (.load false 1 (.t 23)) 20 true [17,14],og_ 25 (.mv (.t 1)) 20 true [14],og_ 26 (.chk (.t 25)) 20 true [19,14],og_ 27 (.fa 5 (.t 26)) 20 true
 [20,14],og_ 28 (.load false 1 (.t 27)) 20 true [21,14],og_ 29 (.mv (.t 5)) 20 true [14],og_ 30 (.call 98 [(.t 24),(.t 28),(.t 29)]) 20 true [18,22,23,14,14],oo_ 31 (.pick (.t 20) (.t 30) (.d (.bool false))) [14,24],om_
 4 31 [25,24,0,1,2,3,4,5,6,7,8,9,10,11,12,13,14,15,16,17,18,19,20,21,22,23,24,25]]) .ret)))
theorem o_6e : fnOf Tryz.prog o_6c = some (o_6d, [.t 4], 32, false) := by kernel_rfl

abbrev o_6f : FuncId := 38
def o_6g : C := (.seq (.reg false [oo_ 2 (.mv (.d (.int .i64 0))) []]) (.seq (.reg false [om_ 3 0 [],oo_ 4 (.chk (.t 3)) [0],oo_ 5 (.fa 6 (.t 4)) [1],oo_ 6 (.load false 1 (.t 5)) [2],om_ 2 6 [3,0,1,2,3]]) .ret))
theorem o_6h : fnOf Tryz.prog o_6f = some (o_6g, [.t 2], 7, false) := by kernel_rfl

abbrev o_6i : FuncId := 39
def o_6j : C := (.seq (.reg false [oo_ 2 (.mv (.d .nilsl)) []]) (.seq (.reg false [oo_ 3 (.mv (.d .nilsl)) []]) (.seq (.reg false [om_ 7 0 [],oo_ 8 (.call 35 [(.t 7)]) [0],oo_ 9 (.call 34 [(.t 8)]) [1,1],om_ 4 9 [2,2,0,1,2]]) (.seq
 (.seq (.reg false [om_ 10 0 [],oo_ 11 (.call 99 [(.t 10)]) [0],oo_ 12 (.mv (.d (.int .i64 0))) []]) (.block 0 (.loop (.seq (.reg false [oo_ 13 (.bin .lss (.t 12) (.t 11)) []]) (.seq (.cond (.t 13) .skip (.exit 0)) (.seq
 (.block 1 (.seq (.reg false [om_ 15 4 [],oo_ 16 (.call 40 [(.t 15)]) [0],om_ 14 16 [1],oo_ 17 (.ext (.t 14) 0) [2],oo_ 18 (.ext (.t 14) 1) [2],om_ 5 17 [3,1,0,1,2,3],om_ 6 18 [4,5,0,1,2,3,4,5]]) (.reg false [om_ 19 3
 [],om_ 20 5 [],oo_ 21 (.bsl 4 1 1 [(.bool false)] [(0,1,(.t 20))]) [1],oo_ 22 (.app 4 1 1 (.t 19) (.t 21)) [0,2],om_ 3 22 [3,3,0,1,2,3]]))) (.reg false [oo_ 23 (.bin .add (.t 12) (.d (.int .i64 1))) [],om_ 12 23
 [0]]))))))) (.seq (.reg false [om_ 24 3 [],om_ 2 24 [0,0]]) .ret)))))
theorem o_6k : fnOf Tryz.prog o_6i = some (o_6j, [.t 2], 25, false) := by kernel_rfl

abbrev o_6l : FuncId := 40
def o_6m : C := (.seq (.reg false [oo_ 2 (.mv (.d (.bool false))) [],oo_ 3 (.mv (.d (.int .i64 0))) [0]]) (.seq (.reg false [om_ 7 0 [],oo_ 8 (.call 91 [(.t 7),(.d (.int .i64 1))]) [0],om_ 6 8 [1],oo_ 9 (.ext (.t 6) 0) [2],oo_ 10 (.ext
 (.t 6) 1) [2],om_ 4 9 [3,1,0,1,2,3],om_ 5 10 [4,5,0,1,2,3,4,5]]) (.seq (.reg false [om_ 11 4 [],oo_ 12 (.bin .eql (.t 11) (.d (.int .u64 1))) [0],om_ 13 5 [],om_ 2 12 [1,0,1],om_ 3 13 [2,3,0,1,2,3]]) .ret)))
theorem o_6n : fnOf Tryz.prog o_6l = some (o_6m, [.t 2, .t 3], 14, false) := by kernel_rfl

abbrev o_6o : FuncId := 41
def o_6p : C := (.seq (.reg false [oo_ 2 (.mv (.d (.int .i64 0))) []]) (.seq (.reg true [om_ 3 0 [],oo_ 4 (.chk (.t 3)) [0],oo_ 5 (.fa 0 (.t 4)) [1],oo_ 6 (.load false 1 (.t 5)) [2],oo_ 7 (.len (.t 6)) [3],oo_ 8 (.bin .mul (.d (.int
 .i64 8)) (.t 7)) [4],om_ 9 0 [],oo_ 10 (.chk (.t 9)) [6],oo_ 11 (.fa 1 (.t 10)) [7],oo_ 12 (.load false 1 (.t 11)) [8],oo_ 13 (.bin .sub (.t 8) (.t 12)) [5,9],om_ 2 13 [10,0,1,2,3,4,5,6,7,8,9,10]]) .ret))
theorem o_6q : fnOf Tryz.prog o_6o = some (o_6p, [.t 2], 14, false) := by kernel_rfl

abbrev o_6r : FuncId := 42
def o_6s : C := (.seq (.reg false [oo_ 4 (.mv (.d (.int .i64 0))) []]) (.seq (.seq (.reg false [om_ 7 0 [],oo_ 8 (.call 10 [(.t 7)]) [0],oo_ 9 (.un .not (.t 8)) [1]]) (.cond (.t 9) (.seq (.reg false [oo_ 4 (.mv (.d (.int .i64 10)))
 []]) .ret) .skip)) (.seq (.seq (.reg false [om_ 10 1 [],oo_ 11 (.len (.t 10)) [0],oo_ 12 (.mv (.d (.int .i64 0))) []]) (.block 0 (.loop (.seq (.reg false [oo_ 13 (.bin .lss (.t 12) (.t 11)) []]) (.seq (.cond (.t 13)
 .skip (.exit 0)) (.seq (.block 1 (.seq (.reg false [oo_ 14 (.ix 1 (.t 10) (.t 12)) [],oo_ 15 (.load false 1 (.t 14)) [0],om_ 6 15 [1,0,1]]) (.seq (.reg false [om_ 16 6 [],oo_ 17 (.bin .lss (.t 16) (.d (.int .i64 0)))
 [0],om_ 18 17 [1],og_ 19 (.mv (.t 6)) 18 false [2],og_ 20 (.bin .gtr (.t 19) (.d (.int .i64 1023))) 18 false [3,2],oo_ 21 (.pick (.t 18) (.d (.bool true)) (.t 20)) [2,4]]) (.cond (.t 21) (.seq (.reg false [oo_ 4 (.mv
 (.d (.int .i64 2))) []]) .ret) .skip)))) (.reg false [oo_ 22 (.bin .add (.t 12) (.d (.int .i64 1))) [],om_ 12 22 [0]]))))))) (.seq (.reg false [oo_ 4 (.mv (.d (.int .i64 0))) []]) .ret))))
theorem o_6t : fnOf Tryz.prog o_6r = some (o_6s, [.t 4], 23, false) := by kernel_rfl

abbrev o_6u : FuncId := 46
def o_6v : C := (.seq (.reg false [oo_ 1 (.box 29 (.t 0)) [],oo_ 2 (.mv (.d (.bool false))) []]) (.seq (.reg false [oo_ 3 (.fa 2 (.t 1)) [],oo_ 4 (.load true 1 (.t 3)) [0],oo_ 5 (.call 105 [(.t 4)]) [1],om_ 2 5 [2,2,0,1,2]]) .ret))
theorem o_6w : fnOf Tryz.prog o_6u = some (o_6v, [.t 2], 6, false) := by kernel_rfl

abbrev o_6x : FuncId := 47
def o_6y : C := (.seq (.reg false [oo_ 1 (.box 27 (.t 0)) [],⟨some 2,.mv (.d (.str ⟨#[]⟩)),none,[]⟩]) (.seq (.seq (.reg false [oo_ 3 (.fa 1 (.t 1)) [],oo_ 4 (.load false 1 (.t 3)) [0]]) (.cond (.t 4) (.seq (.reg false [oo_ 5 (.fa 0 (.t
 1)) [],oo_ 6 (.load true 1 (.t 5)) [0],oo_ 7 (.call 49 [(.t 6)]) [1],⟨some 8,.bin .add (.d (.str ⟨#[45]⟩)) (.t 7),none,[2]⟩,om_ 2 8 [3,2,0,1,2,3]]) .ret) .skip)) (.seq (.reg false [oo_ 9 (.fa 0 (.t 1)) [],oo_ 10 (.load
 true 1 (.t 9)) [0],oo_ 11 (.call 49 [(.t 10)]) [1],om_ 2 11 [2,2,0,1,2]]) .ret)))
theorem o_6z : fnOf Tryz.prog o_6x = some (o_6y, [.t 2], 12, false) := by kernel_rfl

abbrev o_70 : FuncId := 49
def o_71 : C := (.seq (.reg false [oo_ 1 (.box 25 (.t 0)) [],⟨some 2,.mv (.d (.str ⟨#[]⟩)),none,[]⟩]) (.seq (.seq (.reg false [oo_ 8 (.load true 1 (.t 1)) [],oo_ 9 (.call 105 [(.t 8)]) [0]]) (.cond (.t 9) (.seq (.reg false [⟨some 2,.mv
 (.d (.str ⟨#[48]⟩)),none,[]⟩]) .ret) .skip)) (.seq (.reg false [⟨some 3,.mv (.d (.str ⟨#[]⟩)),none,[]⟩]) (.seq (.seq (.reg false [oo_ 10 (.fa 0 (.t 1)) [],oo_ 11 (.load false 1 (.t 10)) [0],om_ 4 11 [1,0,1]]) (.block 0
 (.loop (.seq (.seq (.reg false [om_ 12 4 [],oo_ 13 (.len (.t 12)) [0],oo_ 14 (.bin .gtr (.t 13) (.d (.int .i64 0))) [1]]) (.cond (.t 14) .skip (.exit 0))) (.block 1 (.seq (.reg false [om_ 16 4 [],oo_ 17 (.call 108 [(.t
 16),(.d (.int .u64 1000000000000000000))]) [0],om_ 15 17 [1],oo_ 18 (.ext (.t 15) 0) [2],oo_ 19 (.ext (.t 15) 1) [2],om_ 5 18 [3,1,0,1,2,3],om_ 6 19 [4,5,0,1,2,3,4,5]]) (.seq (.reg false [om_ 20 5 [],oo_ 21 (.call 109
 [(.t 20)]) [0],oo_ 22 (.fld false 0 1 (.t 21)) [1],om_ 4 22 [2,1,0,1,2]]) (.seq (.reg false [om_ 23 6 [],oo_ 24 (.call 110 [(.t 23),(.d (.int .i64 10))]) [0],om_ 7 24 [1,1,0,1]]) (.seq (.seq (.reg false [om_ 25 4 [],oo_
 26 (.len (.t 25)) [0],oo_ 27 (.bin .gtr (.t 26) (.d (.int .i64 0))) [1]]) (.cond (.t 27) (.reg false [om_ 28 7 [],oo_ 29 (.lens (.t 28)) [0],oo_ 30 (.bin .sub (.d (.int .i64 18)) (.t 29)) [1],⟨some 31,.call 111 [(.d
 (.str ⟨#[48]⟩)),(.t 30)],none,[2]⟩,om_ 32 7 [],oo_ 33 (.bin .add (.t 31) (.t 32)) [3,4],om_ 7 33 [5,3,0,1,2,3,4,5]]) .skip)) (.reg false [om_ 34 7 [],om_ 35 3 [],oo_ 36 (.bin .add (.t 34) (.t 35)) [0,1],om_ 3 36
 [2,0,1,2]])))))))))) (.seq (.reg false [om_ 37 3 [],om_ 2 37 [0,0]]) .ret)))))
theorem o_72 : fnOf Tryz.prog o_70 = some (o_71, [.t 2], 38, false) := by kernel_rfl

abbrev o_73 : FuncId := 66
def o_74 : C := (.seq (.reg false [oo_ 1 (.box 52 (.t 0)) [],oo_ 2 (.mv (.d (.int .i64 0))) []]) (.seq (.reg false [oo_ 4 (.load true 3 (.t 1)) [],oo_ 5 (.call 70 [(.t 4)]) [0],om_ 3 5 [1,1,0,1]]) (.seq (.seq (.reg false [om_ 6 3
 [],oo_ 7 (.inl false (.t 6)) [0],om_ 8 7 [1],og_ 9 (.mv (.t 3)) 8 false [2],og_ 10 (.inv (.t 9) "tallymark/chain.good" []) 8 false [3,2,2],og_ 11 (.un .not (.t 10)) 8 false [4,2],oo_ 12 (.pick (.t 8) (.d (.bool true))
 (.t 11)) [2,5],om_ 13 12 [6,4],og_ 14 (.fa 2 (.t 1)) 13 false [7],og_ 15 (.load false 1 (.t 14)) 13 false [8,7],og_ 16 (.bin .lss (.t 15) (.d (.int .i64 1))) 13 false [9,7],oo_ 17 (.pick (.t 13) (.d (.bool true)) (.t
 16)) [7,10],om_ 18 17 [11,7],og_ 19 (.fa 2 (.t 1)) 18 false [12],og_ 20 (.load false 1 (.t 19)) 18 false [13,12],og_ 21 (.bin .gtr (.t 20) (.d (.int .i64 10))) 18 false [14,12],oo_ 22 (.pick (.t 18) (.d (.bool true))
 (.t 21)) [12,15]]) (.cond (.t 22) (.seq (.reg false [oo_ 2 (.mv (.d (.int .i64 10))) []]) .ret) .skip)) (.seq (.seq (.reg true [oo_ 23 (.fa 0 (.t 1)) [],oo_ 24 (.load false 1 (.t 23)) [0],oo_ 25 (.bin .eql (.t 24) (.d
 (.int .i64 1))) [1],om_ 26 25 [2],og_ 27 (.fa 1 (.t 1)) 26 true [3],og_ 28 (.load false 1 (.t 27)) 26 true [4,3],og_ 29 (.bin .add (.t 28) (.d (.int .i64 1))) 26 true [5,3],og_ 30 (.conv .u64 (.t 29)) 26 true [6,3],og_
 31 (.call 127 [(.t 30)]) 26 true [7,3,3],og_ 32 (.fa 2 (.t 1)) 26 true [3],og_ 33 (.load false 1 (.t 32)) 26 true [9,3],og_ 34 (.bin .shl (.d (.int .i64 1)) (.t 33)) 26 true [10,3],og_ 35 (.bin .sub (.t 34) (.d (.int
 .i64 1))) 26 true [11,3],og_ 36 (.bin .mul (.t 31) (.t 35)) 26 true [8,12,3],og_ 37 (.bin .gtr (.t 36) (.d (.int .i64 8192))) 26 true [13,3],oo_ 38 (.pick (.t 26) (.t 37) (.d (.bool false))) [3,14]]) (.cond (.t 38)
 (.seq (.reg false [oo_ 2 (.mv (.d (.int .i64 10))) []]) .ret) .skip)) (.seq (.reg false [oo_ 2 (.mv (.d (.int .i64 0))) []]) .ret)))))
theorem o_75 : fnOf Tryz.prog o_73 = some (o_74, [.t 2], 39, false) := by kernel_rfl

abbrev o_76 : FuncId := 67
def o_77 : C := (.seq (.reg false [oo_ 1 (.box 52 (.t 0)) [],oo_ 2 (.mv (.d (.int .i64 0))) []]) (.seq (.seq (.reg false [oo_ 3 (.load true 3 (.t 1)) [],oo_ 4 (.call 66 [(.t 3)]) [0],oo_ 5 (.bin .neq (.t 4) (.d (.int .i64 0))) [1]])
 (.cond (.t 5) (.seq (.reg false [oo_ 2 (.mv (.d (.int .i64 0))) []]) .ret) .skip)) (.seq (.reg false [oo_ 6 (.fa 2 (.t 1)) [],oo_ 7 (.load false 1 (.t 6)) [0],oo_ 8 (.bin .shl (.d (.int .i64 1)) (.t 7)) [1],oo_ 9 (.bin
 .sub (.t 8) (.d (.int .i64 1))) [2],om_ 2 9 [3,0,1,2,3]]) .ret)))
theorem o_78 : fnOf Tryz.prog o_76 = some (o_77, [.t 2], 10, false) := by kernel_rfl

abbrev o_79 : FuncId := 69
def o_7a : C := (.seq (.reg false [oo_ 2 (.box 52 (.t 0)) [],oo_ 4 (.mv (.d (.int .i64 0))) []]) (.seq (.seq (.reg false [oo_ 8 (.load true 3 (.t 2)) [],oo_ 9 (.call 66 [(.t 8)]) [0],om_ 5 9 [1,1,0,1]]) (.seq (.reg false [om_ 10 5
 [],oo_ 11 (.bin .neq (.t 10) (.d (.int .i64 0))) [0]]) (.cond (.t 11) (.seq (.reg false [om_ 12 5 [],om_ 4 12 [0,0]]) .ret) .skip))) (.seq (.seq (.reg false [om_ 13 1 [],oo_ 14 (.len (.t 13)) [0],oo_ 15 (.mv (.d (.int
 .i64 0))) []]) (.block 0 (.loop (.seq (.reg false [oo_ 16 (.bin .lss (.t 15) (.t 14)) []]) (.seq (.cond (.t 16) .skip (.exit 0)) (.seq (.block 1 (.seq (.reg false [oo_ 17 (.ix 1 (.t 13) (.t 15)) [],oo_ 18 (.load false 1
 (.t 17)) [0],om_ 7 18 [1,0,1]]) (.seq (.reg false [om_ 19 7 [],oo_ 20 (.bin .lss (.t 19) (.d (.int .i64 0))) [0],om_ 21 20 [1],og_ 22 (.mv (.t 7)) 21 false [2],og_ 23 (.load true 3 (.t 2)) 21 false [2],og_ 24 (.call 67
 [(.t 23)]) 21 false [4,2,2],og_ 25 (.bin .gtr (.t 22) (.t 24)) 21 false [3,5,2],oo_ 26 (.pick (.t 21) (.d (.bool true)) (.t 25)) [2,6]]) (.cond (.t 26) (.seq (.reg false [oo_ 4 (.mv (.d (.int .i64 2))) []]) .ret)
 .skip)))) (.reg false [oo_ 27 (.bin .add (.t 15) (.d (.int .i64 1))) [],om_ 15 27 [0]]))))))) (.seq (.reg false [oo_ 4 (.mv (.d (.int .i64 0))) []]) .ret))))
theorem o_7b : fnOf Tryz.prog o_79 = some (o_7a, [.t 4], 28, false) := by kernel_rfl

abbrev o_7c : FuncId := 70
def o_7d : C := (.seq (.reg false [oo_ 1 (.box 52 (.t 0)) [],oo_ 2 (.mv (.d .nilifc)) []]) (.seq (.seq (.reg false [oo_ 3 (.fa 0 (.t 1)) [],oo_ 4 (.load false 1 (.t 3)) [0]]) (.block 0 (.seq (.reg false [oo_ 6 (.bin .eql (.t 4) (.d
 (.int .i64 1))) [],om_ 5 6 [0]]) (.cond (.t 5) (.seq (.reg false [oo_ 7 (.fa 1 (.t 1)) [],oo_ 8 (.load false 1 (.t 7)) [0],oo_ 9 (.ifc 196 (.t 8)) [1],om_ 2 9 [2,0,1,2]]) .ret) (.seq (.reg false [oo_ 11 (.bin .eql (.t
 4) (.d (.int .i64 2))) [],om_ 10 11 [0]]) (.cond (.t 10) (.seq (.reg false [oo_ 12 (.fa 1 (.t 1)) [],oo_ 13 (.load false 1 (.t 12)) [0],oo_ 14 (.ifc 197 (.t 13)) [1],om_ 2 14 [2,0,1,2]]) .ret) (.seq (.reg false [oo_ 16
 (.bin .eql (.t 4) (.d (.int .i64 3))) [],om_ 15 16 [0]]) (.cond (.t 15) (.seq (.reg false [oo_ 17 (.fa 1 (.t 1)) [],oo_ 18 (.load false 1 (.t 17)) [0],oo_ 19 (.ifc 198 (.t 18)) [1],om_ 2 19 [2,0,1,2]]) .ret)
 .skip)))))))) (.seq (.reg false [oo_ 2 (.mv (.d .nilifc)) []]) .ret)))
theorem o_7e : fnOf Tryz.prog o_7c = some (o_7d, [.t 2], 20, false) := by kernel_rfl

abbrev o_7f : FuncId := 71
def o_7g : C := (.seq (.reg false [oo_ 3 (.box 52 (.t 0)) [],oo_ 4 (.box 59 (.t 1)) [],oo_ 6 (.new 59 [(.int .i64 0),(.bool false)]) [],oo_ 7 (.mv (.d (.int .i64 0))) []]) (.seq (.seq (.reg true [oo_ 10 (.fa 0 (.t 4)) [],oo_ 11 (.load
 false 1 (.t 10)) [0],oo_ 12 (.load true 3 (.t 3)) [],oo_ 13 (.call 67 [(.t 12)]) [2],oo_ 14 (.bin .eql (.t 11) (.t 13)) [1,3]]) (.cond (.t 14) (.seq (.reg false [oo_ 15 (.fa 1 (.t 4)) [],on_ (.store 1 (.t 15) (.d (.bool
 true))) [0]]) (.seq (.reg false [oo_ 16 (.load true 2 (.t 4)) [],on_ (.store 2 (.t 6) (.t 16)) [0,0],oo_ 7 (.mv (.d (.int .i64 0))) [1,0,1]]) .ret)) .skip)) (.seq (.reg false [om_ 18 2 [],oo_ 19 (.fa 0 (.t 4)) [],oo_ 20
 (.load false 1 (.t 19)) [1],oo_ 21 (.callv (.t 18) [(.t 20)]) [0,2],om_ 17 21 [3],oo_ 22 (.ext (.t 17) 0) [4],oo_ 23 (.ext (.t 17) 1) [4],om_ 8 22 [5,3,0,1,2,3,4,5],om_ 9 23 [6,7,0,1,2,3,4,5,6,7]]) (.seq (.seq (.reg
 false [om_ 24 8 []]) (.cond (.t 24) (.reg false [oo_ 25 (.fa 0 (.t 4)) [],oo_ 26 (.load false 1 (.t 25)) [0],oo_ 27 (.bin .add (.t 26) (.d (.int .i64 1))) [1],oo_ 28 (.fa 0 (.t 4)) [0,1,2],on_ (.store 1 (.t 28) (.t 27))
 [3,2,0,1,2]]) .skip)) (.seq (.reg false [oo_ 29 (.load true 2 (.t 4)) [],om_ 30 9 [],on_ (.store 2 (.t 6) (.t 29)) [0,0],om_ 7 30 [1,2,0,1,2]]) .ret)))))
theorem o_7h : fnOf Tryz.prog o_7f = some (o_7g, [.cell 6 true 2, .t 7], 31, false) := by kernel_rfl

abbrev o_7i : FuncId := 72
def o_7j : C := (.seq (.reg false [oo_ 4 (.mv (.d (.bool false))) [],oo_ 5 (.mv (.d (.int .i64 0))) [0]]) (.seq (.reg false [oo_ 6 (.load false 1 (.t 1)) [],oo_ 7 (.load false 1 (.t 2)) [],om_ 8 0 [],oo_ 9 (.inv (.t 6)
 "tallymark/chain.step" [(.t 7),(.t 8)]) [0,1,2],oo_ 10 (.ext (.t 9) 0) [3],oo_ 11 (.ext (.t 9) 1) [3],om_ 4 10 [4,3,0,1,2,3,4,5],om_ 5 11 [5,6,0,1,2,3,4,5,6]]) .ret))
theorem o_7k : fnOf Tryz.prog o_7i = some (o_7j, [.t 4, .t 5], 12, false) := by kernel_rfl

abbrev o_7l : FuncId := 79
def o_7m : C := (.seq (.reg false [oo_ 2 (.box 88 (.t 0)) [],oo_ 4 (.mv (.d .nilp)) [],oo_ 5 (.mv (.d (.int .i64 0))) [1]]) (.seq (.seq (.reg false [oo_ 13 (.load true 5 (.t 2)) [],oo_ 14 (.call 89 [(.t 13)]) [0],om_ 6 14 [1,1,0,1]])
 (.block 0 (.seq (.reg false [om_ 16 6 [],oo_ 17 (.bin .neq (.t 16) (.d (.int .i64 0))) [0],om_ 15 17 [1]]) (.cond (.t 15) (.seq (.reg false [om_ 18 6 [],oo_ 4 (.mv (.d .nilp)) [],om_ 5 18 [0,1,0,1]]) .ret) (.seq (.reg
 false [om_ 20 1 [],oo_ 21 (.len (.t 20)) [0],oo_ 22 (.fa 0 (.t 2)) [],oo_ 23 (.load false 1 (.t 22)) [2],oo_ 24 (.bin .neq (.t 21) (.t 23)) [1,3],om_ 19 24 [4]]) (.cond (.t 19) (.seq (.reg false [oo_ 4 (.mv (.d .nilp))
 [],oo_ 5 (.mv (.d (.int .i64 10))) [0,0]]) .ret) .skip)))))) (.seq (.reg false [oo_ 25 (.load true 5 (.t 2)) [],oo_ 26 (.build [(.int .i64 0),(.int .i64 0),(.int .i64 0),(.int .i64 0),(.int .i64 0),.nilsl,(.int .i64 0)]
 [(0,5,(.t 25))]) [0],oo_ 27 (.box 147 (.t 26)) [1],om_ 7 27 [2,0,1,2]]) (.seq (.seq (.reg false [om_ 28 1 [],oo_ 29 (.len (.t 28)) [0],oo_ 30 (.mv (.d (.int .i64 0))) []]) (.block 1 (.loop (.seq (.reg false [oo_ 31
 (.bin .lss (.t 30) (.t 29)) []]) (.seq (.cond (.t 31) .skip (.exit 1)) (.seq (.block 2 (.seq (.reg false [oo_ 32 (.ix 2 (.t 28) (.t 30)) [],oo_ 33 (.load true 2 (.t 32)) [0],oo_ 9 (.new 131 [(.int .u64 0),(.int .u64
 0)]) [],on_ (.store 2 (.t 9) (.t 33)) [2,1,0,1,2]]) (.seq (.seq (.reg false [oo_ 34 (.load true 2 (.t 9)) [],oo_ 35 (.call 92 [(.t 34)]) [0],om_ 10 35 [1,1,0,1]]) (.seq (.reg false [om_ 36 10 [],oo_ 37 (.bin .neq (.t
 36) (.d (.int .i64 0))) [0]]) (.cond (.t 37) (.seq (.reg false [om_ 38 10 [],oo_ 4 (.mv (.d .nilp)) [],om_ 5 38 [0,1,0,1]]) .ret) .skip))) (.seq (.reg false [oo_ 40 (.fa 2 (.t 2)) [],oo_ 41 (.load true 3 (.t 40))
 [0],oo_ 42 (.fa 1 (.t 2)) [],oo_ 43 (.load false 1 (.t 42)) [2],oo_ 44 (.call 136 [(.t 41),(.t 43)]) [1,3],om_ 39 44 [4],oo_ 45 (.ext (.t 39) 0) [5],oo_ 46 (.ext (.t 39) 1) [5],om_ 11 45 [6,4,0,1,2,3,4,5,6],om_ 12 46
 [7,8,0,1,2,3,4,5,6,7,8]]) (.seq (.seq (.reg false [om_ 47 12 [],oo_ 48 (.bin .neq (.t 47) (.d (.int .i64 0))) [0]]) (.cond (.t 48) (.seq (.reg false [om_ 49 12 [],oo_ 4 (.mv (.d .nilp)) [],om_ 5 49 [0,1,0,1]]) .ret)
 .skip)) (.reg true [om_ 50 7 [],om_ 51 7 [],oo_ 52 (.chk (.t 51)) [1],oo_ 53 (.fa 5 (.t 52)) [2],oo_ 54 (.load false 1 (.t 53)) [3],oo_ 55 (.load true 2 (.t 9)) [],om_ 56 11 [],oo_ 57 (.build [(.int .u64 0),(.int .u64
 0),.nilp] [(0,2,(.t 55)),(2,1,(.t 56))]) [5,6],oo_ 58 (.bsl 150 3 1 [(.int .u64 0),(.int .u64 0),.nilp] [(0,3,(.t 57))]) [7],oo_ 59 (.app 150 3 24 (.t 54) (.t 58)) [4,8],oo_ 60 (.chk (.t 50)) [0,0,1,2,3,4,5,6,7,8,9],oo_
 61 (.fa 5 (.t 60)) [10,0,1,2,3,4,5,6,7,8,9],on_ (.store 1 (.t 61) (.t 59)) [11,9,9,0,1,2,3,4,5,6,7,8,9]])))))) (.reg false [oo_ 62 (.bin .add (.t 30) (.d (.int .i64 1))) [],om_ 30 62 [0]]))))))) (.seq (.reg false [om_
 63 7 [],om_ 4 63 [0,0],oo_ 5 (.mv (.d (.int .i64 0))) [1,0,1]]) .ret)))))
theorem o_7n : fnOf Tryz.prog o_7l = some (o_7m, [.t 4, .t 5], 64, false) := by kernel_rfl

abbrev o_7o : FuncId := 80
def o_7p : C := (.seq (.reg false [oo_ 8 (.mv (.d (.int .i64 0))) []]) (.seq (.block 0 (.seq (.reg false [om_ 16 2 [],oo_ 17 (.bin .geq (.t 16) (.d (.int .u64 2305843009213693951))) [0],om_ 18 17 [1],og_ 19 (.mv (.t 3)) 18 false
 [2],og_ 20 (.bin .lss (.t 19) (.d (.int .i64 0))) 18 false [3,2],oo_ 21 (.pick (.t 18) (.d (.bool true)) (.t 20)) [2,4],om_ 22 21 [5,2],og_ 23 (.mv (.t 3)) 22 false [6],og_ 24 (.bin .gtr (.t 23) (.d (.int .i64
 1048576))) 22 false [7,6],oo_ 25 (.pick (.t 22) (.d (.bool true)) (.t 24)) [6,8],om_ 15 25 [9,6]]) (.cond (.t 15) (.seq (.reg false [oo_ 8 (.mv (.d (.int .i64 2))) []]) .ret) (.seq (.reg false [om_ 27 0 [],oo_ 28 (.chk
 (.t 27)) [0],oo_ 29 (.fa 6 (.t 28)) [1],oo_ 30 (.load false 1 (.t 29)) [2],om_ 31 3 [],oo_ 32 (.bin .add (.t 30) (.t 31)) [3,4],oo_ 33 (.bin .gtr (.t 32) (.d (.int .i64 1099511627776))) [5],om_ 26 33 [6]]) (.cond (.t
 26) (.seq (.reg false [oo_ 8 (.mv (.d (.int .i64 3))) []]) .ret) .skip))))) (.seq (.reg false [om_ 34 0 [],oo_ 35 (.call 137 [(.t 34)]) [0],om_ 9 35 [1,1,0,1]]) (.seq (.seq (.reg false [om_ 36 9 [],oo_ 37 (.chk (.t 36))
 [0],oo_ 38 (.fa 5 (.t 37)) [1],oo_ 39 (.load false 1 (.t 38)) [2],oo_ 40 (.len (.t 39)) [3],oo_ 41 (.mv (.d (.int .i64 0))) []]) (.block 1 (.loop (.seq (.reg false [oo_ 42 (.bin .lss (.t 41) (.t 40)) []]) (.seq (.cond
 (.t 42) .skip (.exit 1)) (.seq (.block 2 (.seq (.reg false [oo_ 43 (.ix 3 (.t 39) (.t 41)) [],oo_ 44 (.load true 3 (.t 43)) [0],oo_ 11 (.new 150 [(.int .u64 0),(.int .u64 0),.nilp]) [],on_ (.store 3 (.t 11) (.t 44))
 [2,1,0,1,2]]) (.seq (.reg true [oo_ 46 (.fa 0 (.t 11)) [],oo_ 47 (.load true 2 (.t 46)) [0],om_ 48 2 [],om_ 49 0 [],oo_ 50 (.chk (.t 49)) [3],oo_ 51 (.fa 0 (.t 50)) [4],oo_ 52 (.fa 1 (.t 51)) [5],oo_ 53 (.load false 1
 (.t 52)) [6],oo_ 54 (.call 138 [(.t 47),(.t 48),(.t 53)]) [1,2,7],om_ 45 54 [8],oo_ 55 (.ext (.t 45) 0) [9],oo_ 56 (.ext (.t 45) 1) [9],om_ 12 55 [10,8,0,1,2,3,4,5,6,7,8,9,10],om_ 13 56
 [11,12,0,1,2,3,4,5,6,7,8,9,10,11,12]]) (.seq (.reg false [oo_ 57 (.fa 2 (.t 11)) [],oo_ 58 (.load false 1 (.t 57)) [0],om_ 59 1 [],om_ 60 12 [],om_ 61 3 [],oo_ 62 (.call 139 [(.t 58),(.t 59),(.t 60),(.t 61)])
 [1,2,3,4],om_ 14 62 [5,5,0,1,2,3,4,5]]) (.seq (.reg false [om_ 63 14 [],oo_ 64 (.bin .neq (.t 63) (.d (.int .i64 0))) [0]]) (.cond (.t 64) (.seq (.reg false [om_ 65 14 [],om_ 8 65 [0,0]]) .ret) .skip)))))) (.reg false
 [oo_ 66 (.bin .add (.t 41) (.d (.int .i64 1))) [],om_ 41 66 [0]]))))))) (.seq (.reg false [om_ 67 9 [],oo_ 68 (.chk (.t 67)) [0],oo_ 69 (.fa 6 (.t 68)) [1],oo_ 70 (.load false 1 (.t 69)) [2],om_ 71 3 [],oo_ 72 (.bin
 .add (.t 70) (.t 71)) [3,4],oo_ 73 (.chk (.t 67)) [0,0,1,2,3,4,5],oo_ 74 (.fa 6 (.t 73)) [6,0,1,2,3,4,5],on_ (.store 1 (.t 74) (.t 72)) [7,5,0,1,2,3,4,5]]) (.seq (.reg false [om_ 75 0 [],om_ 76 9 [],oo_ 77 (.chk (.t
 76)) [1],oo_ 78 (.load true 7 (.t 77)) [2],oo_ 79 (.chk (.t 75)) [0,0,1,2,3],on_ (.store 7 (.t 79) (.t 78)) [4,3,0,1,2,3]]) (.seq (.reg false [oo_ 8 (.mv (.d (.int .i64 0))) []]) .ret)))))))
theorem o_7q : fnOf Tryz.prog o_7o = some (o_7p, [.t 8], 80, false) := by kernel_rfl

abbrev o_7r : FuncId := 81
def o_7s : C := (.seq (.reg false [oo_ 4 (.new 29 [.nilsl,(.bool false),.nilsl]) [],oo_ 5 (.mv (.d (.int .i64 0))) []]) (.seq (.reg false [oo_ 6 (.new 29 [.nilsl,(.bool false),.nilsl]) []]) (.seq (.seq (.reg false [om_ 14 0 [],oo_ 15
 (.chk (.t 14)) [0],oo_ 16 (.fa 5 (.t 15)) [1],oo_ 17 (.load false 1 (.t 16)) [2],oo_ 18 (.len (.t 17)) [3],oo_ 19 (.mv (.d (.int .i64 0))) []]) (.block 0 (.loop (.seq (.reg false [oo_ 20 (.bin .lss (.t 19) (.t 18)) []])
 (.seq (.cond (.t 20) .skip (.exit 0)) (.seq (.block 1 (.seq (.reg false [om_ 21 19 [],oo_ 22 (.ix 3 (.t 17) (.t 19)) [],oo_ 23 (.load true 3 (.t 22)) [1],oo_ 8 (.new 150 [(.int .u64 0),(.int .u64 0),.nilp]) [],om_ 7 21
 [0,0,1,2,3],on_ (.store 3 (.t 8) (.t 23)) [3,2,4,0,1,2,3,4]]) (.seq (.reg true [oo_ 25 (.fa 0 (.t 8)) [],oo_ 26 (.load true 2 (.t 25)) [0],om_ 27 1 [],om_ 28 0 [],oo_ 29 (.chk (.t 28)) [3],oo_ 30 (.fa 0 (.t 29)) [4],oo_
 31 (.fa 1 (.t 30)) [5],oo_ 32 (.load false 1 (.t 31)) [6],oo_ 33 (.call 138 [(.t 26),(.t 27),(.t 32)]) [1,2,7],om_ 24 33 [8],oo_ 34 (.ext (.t 24) 0) [9],oo_ 35 (.ext (.t 24) 1) [9],om_ 9 34
 [10,8,0,1,2,3,4,5,6,7,8,9,10],om_ 10 35 [11,12,0,1,2,3,4,5,6,7,8,9,10,11,12]]) (.seq (.seq (.reg false [om_ 36 10 [],oo_ 37 (.bin .neq (.t 36) (.d (.int .i64 0))) [0]]) (.cond (.t 37) (.seq (.reg false [oo_ 38 (.build
 [.nilsl,(.bool false),.nilsl] []) [],om_ 39 10 [],on_ (.store 3 (.t 4) (.t 38)) [0,0],om_ 5 39 [1,2,0,1,2]]) .ret) .skip)) (.seq (.reg false [oo_ 41 (.fa 2 (.t 8)) [],oo_ 42 (.load false 1 (.t 41)) [0],om_ 43 9 [],oo_
 44 (.call 140 [(.t 42),(.t 43)]) [1,2],om_ 40 44 [3],oo_ 45 (.ext (.t 40) 0) [4],oo_ 46 (.ext (.t 40) 1) [4],oo_ 11 (.new 211 [(.int .i64 0),(.int .i64 0),(.bool false)]) [],on_ (.store 3 (.t 11) (.t 45))
 [7,5,3,0,1,2,3,4,5,7],om_ 12 46 [6,8,0,1,2,3,4,5,6,7,8]]) (.seq (.reg true [om_ 48 0 [],oo_ 49 (.chk (.t 48)) [0],oo_ 50 (.fa 0 (.t 49)) [1],oo_ 51 (.fa 2 (.t 50)) [2],oo_ 52 (.load true 3 (.t 51)) [3],oo_ 53 (.load
 true 3 (.t 11)) [],oo_ 54 (.call 141 [(.t 52),(.t 53)]) [4,5],om_ 47 54 [6],oo_ 55 (.ext (.t 47) 0) [7],oo_ 56 (.ext (.t 47) 1) [7],oo_ 13 (.new 29 [.nilsl,(.bool false),.nilsl]) [],on_ (.store 3 (.t 13) (.t 55))
 [10,8,6,0,1,2,3,4,5,6,7,8,10],om_ 10 56 [9,11,0,1,2,3,4,5,6,7,8,9,10,11]]) (.seq (.seq (.reg false [om_ 57 10 [],oo_ 58 (.bin .neq (.t 57) (.d (.int .i64 0))) [0]]) (.cond (.t 58) (.seq (.reg false [oo_ 59 (.build
 [.nilsl,(.bool false),.nilsl] []) [],om_ 60 10 [],on_ (.store 3 (.t 4) (.t 59)) [0,0],om_ 5 60 [1,2,0,1,2]]) .ret) .skip)) (.seq (.reg false [om_ 61 7 [],oo_ 62 (.bin .eql (.t 61) (.d (.int .i64 0))) [0],om_ 63 62
 [1],og_ 64 (.load true 3 (.t 13)) 63 false [2],og_ 65 (.load true 3 (.t 6)) 63 false [2],og_ 66 (.call 14 [(.t 64),(.t 65)]) 63 false [3,4,2,2],og_ 67 (.bin .lss (.t 66) (.d (.int .i64 0))) 63 false [5,2],oo_ 68 (.pick
 (.t 63) (.d (.bool true)) (.t 67)) [2,6]]) (.cond (.t 68) (.reg false [oo_ 69 (.load true 3 (.t 13)) [],on_ (.store 3 (.t 6) (.t 69)) [0,0]]) .skip))))))))) (.reg false [oo_ 70 (.bin .add (.t 19) (.d (.int .i64 1)))
 [],om_ 19 70 [0]]))))))) (.seq (.reg false [oo_ 71 (.load true 3 (.t 6)) [],on_ (.store 3 (.t 4) (.t 71)) [0,0],oo_ 5 (.mv (.d (.int .i64 0))) [1,0,1]]) .ret))))
theorem o_7t : fnOf Tryz.prog o_7r = some (o_7s, [.cell 4 true 3, .t 5], 72, false) := by kernel_rfl

abbrev o_7u : FuncId := 82
def o_7v : C := (.seq (.reg false [oo_ 1 (.box 70 (.t 0)) [],oo_ 2 (.new 88 [(.int .i64 0),(.int .i64 0),(.int .i64 0),(.int .i64 0),(.int .i64 0)]) []]) (.seq (.reg false [oo_ 6 (.fa 2 (.t 1)) [],oo_ 7 (.load true 3 (.t 6)) [0],oo_ 8
 (.build [(.int .i64 0),(.int .i64 0),(.bool false)] []) [],oo_ 9 (.call 142 [(.t 7),(.t 8)]) [1,2],om_ 5 9 [3],oo_ 10 (.ext (.t 5) 0) [4],oo_ 11 (.ext (.t 5) 1) [4],oo_ 3 (.new 68 [(.int .i64 0),(.int .i64 0),(.int .i64
 0)]) [],oo_ 4 (.new 215 [(.int .i64 0),(.int .i64 0),(.bool false)]) [],on_ (.store 3 (.t 3) (.t 10)) [7,5,3,0,1,2,3,4,5,7,8],on_ (.store 3 (.t 4) (.t 11)) [8,6,9,0,1,2,3,4,5,6,7,8,9]]) (.seq (.reg true [oo_ 12 (.fa 0
 (.t 1)) [],oo_ 13 (.load false 1 (.t 12)) [0],oo_ 14 (.bin .and (.t 13) (.d (.int .i64 3))) [1],oo_ 15 (.bin .add (.d (.int .i64 1)) (.t 14)) [2],oo_ 16 (.fa 1 (.t 1)) [],oo_ 17 (.load false 1 (.t 16)) [4],oo_ 18 (.bin
 .and (.t 17) (.d (.int .i64 255))) [5],oo_ 19 (.bin .rem (.t 18) (.d (.int .i64 64))) [6],oo_ 20 (.bin .add (.d (.int .i64 1)) (.t 19)) [7],oo_ 21 (.load true 3 (.t 3)) [],oo_ 22 (.call 143 [(.t 21)]) [9],oo_ 23 (.build
 [(.int .i64 0),(.int .i64 0),(.int .i64 0),(.int .i64 0),(.int .i64 0)] [(0,1,(.t 15)),(1,1,(.t 20)),(2,3,(.t 22))]) [3,8,10],on_ (.store 5 (.t 2) (.t 23)) [11,10,0,1,2,3,4,5,6,7,8,9,10,11]]) .ret)))
theorem o_7w : fnOf Tryz.prog o_7u = some (o_7v, [.cell 2 true 5], 24, false) := by kernel_rfl

abbrev o_7x : FuncId := 83
def o_7y : C := (.seq (.reg false [oo_ 1 (.box 70 (.t 0)) [],oo_ 2 (.mv (.d .nilsl)) []]) (.seq (.reg false [oo_ 3 (.mv (.d .nilsl)) []]) (.seq (.reg false [oo_ 6 (.mkf (.func 144) [(.t 1)]) [],om_ 4 6 [0,0]]) (.seq (.seq (.reg false
 [oo_ 7 (.fa 0 (.t 1)) [],oo_ 8 (.load false 1 (.t 7)) [0],oo_ 9 (.bin .and (.t 8) (.d (.int .i64 3))) [1],oo_ 10 (.bin .add (.d (.int .i64 1)) (.t 9)) [2],oo_ 11 (.mv (.d (.int .i64 0))) []]) (.block 0 (.loop (.seq
 (.reg false [oo_ 12 (.bin .lss (.t 11) (.t 10)) []]) (.seq (.cond (.t 12) .skip (.exit 0)) (.seq (.block 1 (.seq (.reg false [om_ 13 11 [],om_ 5 13 [0,0]]) (.reg false [om_ 14 3 [],om_ 15 4 [],om_ 16 5 [],oo_ 17 (.bin
 .mul (.d (.int .i64 2)) (.t 16)) [2],oo_ 18 (.callv (.t 15) [(.t 17)]) [1,3],om_ 19 4 [],om_ 20 5 [],oo_ 21 (.bin .mul (.d (.int .i64 2)) (.t 20)) [6],oo_ 22 (.bin .add (.t 21) (.d (.int .i64 1))) [7],oo_ 23 (.callv (.t
 19) [(.t 22)]) [5,8,4],oo_ 24 (.build [(.int .u64 0),(.int .u64 0)] [(0,1,(.t 18)),(1,1,(.t 23))]) [4,9],oo_ 25 (.bsl 131 2 1 [(.int .u64 0),(.int .u64 0)] [(0,2,(.t 24))]) [10],oo_ 26 (.app 131 2 16 (.t 14) (.t 25))
 [0,11,9],om_ 3 26 [12,12,0,1,2,3,4,5,6,7,8,9,10,11,12]]))) (.reg false [oo_ 27 (.bin .add (.t 11) (.d (.int .i64 1))) [],om_ 11 27 [0]]))))))) (.seq (.reg false [om_ 28 3 [],om_ 2 28 [0,0]]) .ret)))))
theorem o_7z : fnOf Tryz.prog o_7x = some (o_7y, [.t 2], 29, false) := by kernel_rfl

abbrev o_80 : FuncId := 84
def o_81 : C := (.seq (.reg false [oo_ 1 (.box 137 (.t 0)) [],oo_ 2 (.mv (.d (.int .u64 0))) []]) (.seq (.reg false [oo_ 3 (.fa 0 (.t 1)) [],oo_ 4 (.load false 1 (.t 3)) [0],oo_ 5 (.bin .rem (.t 4) (.d (.int .u64 2305843009213693951)))
 [1],om_ 2 5 [2,0,1,2]]) .ret))
theorem o_82 : fnOf Tryz.prog o_80 = some (o_81, [.t 2], 6, false) := by kernel_rfl

abbrev o_83 : FuncId := 85
def o_84 : C := (.seq (.reg false [oo_ 2 (.mv (.d .nilsl)) []]) (.seq (.seq (.reg false [om_ 3 0 [],oo_ 4 (.snl false (.t 3)) [0]]) (.cond (.t 4) (.seq (.reg false [oo_ 2 (.mv (.d .nilsl)) []]) .ret) .skip)) (.seq (.reg false [oo_ 5
 (.bsl0) [],om_ 6 0 [],oo_ 7 (.app 4 1 1 (.t 5) (.t 6)) [0,1],om_ 2 7 [2,2,0,1,2]]) .ret)))
theorem o_85 : fnOf Tryz.prog o_83 = some (o_84, [.t 2], 8, false) := by kernel_rfl

abbrev o_86 : FuncId := 86
def o_87 : C := (.seq (.block 0 (.loop (.seq (.seq (.reg false [om_ 4 1 [],oo_ 5 (.bin .geq (.t 4) (.d (.int .u64 128))) [0]]) (.cond (.t 5) .skip (.exit 0))) (.seq (.block 1 (.reg false [om_ 8 0 [],om_ 9 1 [],oo_ 10 (.bin .and (.t 9)
 (.d (.int .u64 127))) [1],oo_ 11 (.bin .or (.t 10) (.d (.int .u64 128))) [2],oo_ 12 (.call 87 [(.t 8),(.t 11),(.d (.int .i64 8))]) [0,3]])) (.reg false [om_ 6 1 [],oo_ 7 (.bin .shr (.t 6) (.d (.int .u64 7))) [0],om_ 1 7
 [1,0,1]]))))) (.reg false [om_ 13 0 [],om_ 14 1 [],oo_ 15 (.call 87 [(.t 13),(.t 14),(.d (.int .i64 8))]) [0,1]]))
theorem o_88 : fnOf Tryz.prog o_86 = some (o_87, [], 16, false) := by kernel_rfl

abbrev o_89 : FuncId := 87
def o_8a : C := (.seq (.reg false [oo_ 6 (.mv (.d (.int .i64 0))) []]) (.seq (.seq (.reg false [om_ 8 2 [],oo_ 9 (.call 145 [(.t 8)]) [0],oo_ 10 (.un .not (.t 9)) [1],om_ 11 10 [2,1],og_ 12 (.mv (.t 1)) 11 false [3],og_ 13 (.mv (.t 2))
 11 false [3],og_ 14 (.call 146 [(.t 12),(.t 13)]) 11 false [4,5,3,3],og_ 15 (.un .not (.t 14)) 11 false [6,3],oo_ 16 (.pick (.t 11) (.d (.bool true)) (.t 15)) [3,7]]) (.cond (.t 16) (.seq (.reg false [oo_ 6 (.mv (.d
 (.int .i64 2))) []]) .ret) .skip)) (.seq (.seq (.reg false [om_ 17 2 [],oo_ 18 (.mv (.d (.int .i64 0))) []]) (.block 0 (.loop (.seq (.reg false [oo_ 19 (.bin .lss (.t 18) (.t 17)) []]) (.seq (.cond (.t 19) .skip (.exit
 0)) (.seq (.block 1 (.seq (.reg false [om_ 20 18 [],om_ 7 20 [0,0]]) (.reg false [om_ 21 0 [],om_ 22 1 [],om_ 23 2 [],oo_ 24 (.bin .sub (.t 23) (.d (.int .i64 1))) [2],om_ 25 7 [],oo_ 26 (.bin .sub (.t 24) (.t 25))
 [3,4],oo_ 27 (.bin .shr (.t 22) (.t 26)) [1,5],oo_ 28 (.bin .and (.t 27) (.d (.int .u64 1))) [6],oo_ 29 (.bin .eql (.t 28) (.d (.int .u64 1))) [7],oo_ 30 (.call 147 [(.t 21),(.t 29)]) [0,8]]))) (.reg false [oo_ 31 (.bin
 .add (.t 18) (.d (.int .i64 1))) [],om_ 18 31 [0]]))))))) (.seq (.reg false [oo_ 6 (.mv (.d (.int .i64 0))) []]) .ret))))
theorem o_8b : fnOf Tryz.prog o_89 = some (o_8a, [.t 6], 32, false) := by kernel_rfl

abbrev o_8c : FuncId := 88
def o_8d : C := (.seq (.reg false [om_ 7 0 [],oo_ 8 (.chk (.t 7)) [0],oo_ 9 (.fa 1 (.t 8)) [1],oo_ 10 (.load false 1 (.t 9)) [2],oo_ 11 (.mv (.d (.int .i64 0))) []]) (.block 0 (.loop (.seq (.reg false [oo_ 12 (.bin .lss (.t 11) (.t
 10)) []]) (.seq (.cond (.t 12) .skip (.exit 0)) (.seq (.block 1 (.seq (.reg false [om_ 13 11 [],om_ 4 13 [0,0]]) (.seq (.reg false [om_ 15 0 [],om_ 16 4 [],oo_ 17 (.call 148 [(.t 15),(.t 16)]) [0,1],om_ 14 17 [2],oo_ 18
 (.ext (.t 14) 0) [3],oo_ 19 (.ext (.t 14) 1) [3],om_ 5 18 [4,2,0,1,2,3,4],om_ 6 19 [5,6,0,1,2,3,4,5,6]]) (.reg false [om_ 20 1 [],om_ 21 5 [],om_ 22 0 [],oo_ 23 (.chk (.t 22)) [2],oo_ 24 (.fa 2 (.t 23)) [3],oo_ 25
 (.load false 1 (.t 24)) [4],oo_ 26 (.call 87 [(.t 20),(.t 21),(.t 25)]) [0,1,5]])))) (.reg false [oo_ 27 (.bin .add (.t 11) (.d (.int .i64 1))) [],om_ 11 27 [0]])))))))
theorem o_8e : fnOf Tryz.prog o_8c = some (o_8d, [], 28, false) := by kernel_rfl

abbrev o_8f : FuncId := 89
def o_8g : C := (.seq (.reg false [oo_ 1 (.box 88 (.t 0)) [],oo_ 2 (.mv (.d (.int .i64 0))) []]) (.seq (.seq (.reg false [oo_ 3 (.fa 0 (.t 1)) [],oo_ 4 (.load false 1 (.t 3)) [0],oo_ 5 (.bin .lss (.t 4) (.d (.int .i64 1))) [1],om_ 6 5
 [2],og_ 7 (.fa 0 (.t 1)) 6 false [3],og_ 8 (.load false 1 (.t 7)) 6 false [4,3],og_ 9 (.bin .gtr (.t 8) (.d (.int .i64 4))) 6 false [5,3],oo_ 10 (.pick (.t 6) (.d (.bool true)) (.t 9)) [3,6],om_ 11 10 [7,3],og_ 12 (.fa
 1 (.t 1)) 11 false [8],og_ 13 (.load false 1 (.t 12)) 11 false [9,8],og_ 14 (.bin .lss (.t 13) (.d (.int .i64 1))) 11 false [10,8],oo_ 15 (.pick (.t 11) (.d (.bool true)) (.t 14)) [8,11],om_ 16 15 [12,8],og_ 17 (.fa 1
 (.t 1)) 16 false [13],og_ 18 (.load false 1 (.t 17)) 16 false [14,13],og_ 19 (.bin .gtr (.t 18) (.d (.int .i64 64))) 16 false [15,13],oo_ 20 (.pick (.t 16) (.d (.bool true)) (.t 19)) [13,16]]) (.cond (.t 20) (.seq (.reg
 false [oo_ 2 (.mv (.d (.int .i64 10))) []]) .ret) .skip)) (.seq (.reg false [oo_ 21 (.fa 2 (.t 1)) [],oo_ 22 (.load true 3 (.t 21)) [0],oo_ 23 (.call 149 [(.t 22)]) [1],om_ 2 23 [2,2,0,1,2]]) .ret)))
theorem o_8h : fnOf Tryz.prog o_8f = some (o_8g, [.t 2], 24, false) := by kernel_rfl

abbrev o_8i : FuncId := 90
def o_8j : C := (.seq (.reg false [oo_ 2 (.mv (.d (.int .u64 0))) [],oo_ 3 (.mv (.d (.int .i64 0))) [0]]) (.seq (.reg false [oo_ 4 (.mv (.d (.int .u64 0))) []]) (.seq (.seq (.reg false [oo_ 9 (.mv (.d (.int .i64 0))) []]) (.block 0
 (.loop (.seq (.reg false [oo_ 10 (.bin .lss (.t 9) (.d (.int .i64 10))) []]) (.seq (.cond (.t 10) .skip (.exit 0)) (.seq (.block 1 (.seq (.reg false [om_ 11 9 [],om_ 5 11 [0,0]]) (.seq (.reg false [om_ 13 0 [],oo_ 14
 (.call 91 [(.t 13),(.d (.int .i64 8))]) [0],om_ 12 14 [1],oo_ 15 (.ext (.t 12) 0) [2],oo_ 16 (.ext (.t 12) 1) [2],om_ 6 15 [3,1,0,1,2,3],om_ 7 16 [4,5,0,1,2,3,4,5]]) (.seq (.seq (.reg false [om_ 17 7 [],oo_ 18 (.bin
 .neq (.t 17) (.d (.int .i64 0))) [0]]) (.cond (.t 18) (.seq (.reg false [om_ 19 7 [],oo_ 2 (.mv (.d (.int .u64 0))) [],om_ 3 19 [0,1,0,1]]) .ret) .skip)) (.seq (.reg false [om_ 20 6 [],oo_ 21 (.bin .and (.t 20) (.d
 (.int .u64 127))) [0],om_ 8 21 [1,0,1]]) (.seq (.seq (.reg false [om_ 22 5 [],oo_ 23 (.bin .eql (.t 22) (.d (.int .i64 9))) [0],om_ 24 23 [1],og_ 25 (.mv (.t 8)) 24 true [2],og_ 26 (.bin .gtr (.t 25) (.d (.int .u64 1)))
 24 true [3,2],oo_ 27 (.pick (.t 24) (.t 26) (.d (.bool false))) [2,4],om_ 28 27 [5,2],og_ 29 (.mv (.t 5)) 28 false [6],og_ 30 (.bin .gtr (.t 29) (.d (.int .i64 0))) 28 false [7,6],og_ 31 (.mv (.t 30)) 28 false
 [8,6,6],og_ 32 (.mv (.t 6)) 31 true [9],og_ 33 (.bin .eql (.t 32) (.d (.int .u64 0))) 31 true [10,9],og_ 34 (.pick (.t 31) (.t 33) (.d (.bool false))) 28 false [9,11,6],oo_ 35 (.pick (.t 28) (.d (.bool true)) (.t 34))
 [6,12]]) (.cond (.t 35) (.seq (.reg false [oo_ 2 (.mv (.d (.int .u64 0))) [],oo_ 3 (.mv (.d (.int .i64 4))) [0,0]]) .ret) .skip)) (.seq (.reg false [om_ 36 4 [],om_ 37 8 [],om_ 38 5 [],oo_ 39 (.bin .mul (.d (.int .i64
 7)) (.t 38)) [2],oo_ 40 (.bin .shl (.t 37) (.t 39)) [1,3],oo_ 41 (.bin .or (.t 36) (.t 40)) [0,4],om_ 4 41 [5,0,1,2,3,4,5]]) (.seq (.reg false [om_ 42 6 [],oo_ 43 (.bin .lss (.t 42) (.d (.int .u64 128))) [0]]) (.cond
 (.t 43) (.seq (.reg false [om_ 44 4 [],om_ 2 44 [0,0],oo_ 3 (.mv (.d (.int .i64 0))) [1,0,1]]) .ret) .skip))))))))) (.reg false [oo_ 45 (.bin .add (.t 9) (.d (.int .i64 1))) [],om_ 9 45 [0]]))))))) (.seq (.reg false
 [oo_ 2 (.mv (.d (.int .u64 0))) [],oo_ 3 (.mv (.d (.int .i64 4))) [0,0]]) .ret))))
theorem o_8k : fnOf Tryz.prog o_8i = some (o_8j, [.t 2, .t 3], 46, false) := by kernel_rfl

abbrev o_8l : FuncId := 91
def o_8m : C := (.seq (.reg false [oo_ 4 (.mv (.d (.int .u64 0))) [],oo_ 5 (.mv (.d (.int .i64 0))) [0]]) (.seq (.block 0 (.seq (.reg false [om_ 8 1 [],oo_ 9 (.call 145 [(.t 8)]) [0],oo_ 10 (.un .not (.t 9)) [1],om_ 7 10 [2,1]]) (.cond
 (.t 7) (.seq (.reg false [oo_ 4 (.mv (.d (.int .u64 0))) [],oo_ 5 (.mv (.d (.int .i64 2))) [0,0]]) .ret) (.seq (.reg false [om_ 12 1 [],om_ 13 0 [],oo_ 14 (.call 41 [(.t 13)]) [1],oo_ 15 (.bin .gtr (.t 12) (.t 14))
 [0,2],om_ 11 15 [3,2]]) (.cond (.t 11) (.seq (.reg false [oo_ 4 (.mv (.d (.int .u64 0))) [],oo_ 5 (.mv (.d (.int .i64 5))) [0,0]]) .ret) .skip))))) (.seq (.reg false [oo_ 6 (.mv (.d (.int .u64 0))) []]) (.seq (.seq
 (.reg false [om_ 16 1 [],oo_ 17 (.mv (.d (.int .i64 0))) []]) (.block 1 (.loop (.seq (.reg false [oo_ 18 (.bin .lss (.t 17) (.t 16)) []]) (.seq (.cond (.t 18) .skip (.exit 1)) (.seq (.block 2 (.reg false [om_ 19 6
 [],oo_ 20 (.bin .shl (.t 19) (.d (.int .u64 1))) [0],om_ 21 0 [],oo_ 22 (.call 150 [(.t 21)]) [2],oo_ 23 (.bin .or (.t 20) (.t 22)) [1,3],om_ 6 23 [4,3,0,1,2,3,4]])) (.reg false [oo_ 24 (.bin .add (.t 17) (.d (.int .i64
 1))) [],om_ 17 24 [0]]))))))) (.seq (.reg false [om_ 25 6 [],om_ 4 25 [0,0],oo_ 5 (.mv (.d (.int .i64 0))) [1,0,1]]) .ret)))))
theorem o_8n : fnOf Tryz.prog o_8l = some (o_8m, [.t 4, .t 5], 26, false) := by kernel_rfl

abbrev o_8o : FuncId := 92
def o_8p : C := (.seq (.reg false [oo_ 1 (.box 131 (.t 0)) [],oo_ 2 (.mv (.d (.int .i64 0))) []]) (.seq (.seq (.reg false [oo_ 3 (.fa 0 (.t 1)) [],oo_ 4 (.load false 1 (.t 3)) [0],oo_ 5 (.bin .geq (.t 4) (.d (.int .u64
 2305843009213693951))) [1],om_ 6 5 [2],og_ 7 (.fa 1 (.t 1)) 6 false [3],og_ 8 (.load false 1 (.t 7)) 6 false [4,3],og_ 9 (.bin .geq (.t 8) (.d (.int .u64 2305843009213693951))) 6 false [5,3],oo_ 10 (.pick (.t 6) (.d
 (.bool true)) (.t 9)) [3,6]]) (.cond (.t 10) (.seq (.reg false [oo_ 2 (.mv (.d (.int .i64 2))) []]) .ret) .skip)) (.seq (.reg false [oo_ 2 (.mv (.d (.int .i64 0))) []]) .ret)))
theorem o_8q : fnOf Tryz.prog o_8o = some (o_8p, [.t 2], 11, false) := by kernel_rfl

abbrev o_8r : FuncId := 93
def o_8s : C := (.seq (.reg false [oo_ 4 (.box 86 (.t 1)) [],oo_ 6 (.mv (.d .nilp)) [],oo_ 7 (.mv (.d (.int .i64 0))) [1]]) (.seq (.reg false [oo_ 14 (.load true 3 (.t 4)) [],om_ 15 2 [],oo_ 16 (.call 136 [(.t 14),(.t 15)]) [0,1],om_
 13 16 [2],oo_ 17 (.ext (.t 13) 0) [3],oo_ 18 (.ext (.t 13) 1) [3],om_ 8 17 [4,2,0,1,2,3,4],om_ 9 18 [5,6,0,1,2,3,4,5,6]]) (.seq (.seq (.reg false [om_ 19 9 [],oo_ 20 (.bin .neq (.t 19) (.d (.int .i64 0))) [0]]) (.cond
 (.t 20) (.seq (.reg false [om_ 21 9 [],oo_ 6 (.mv (.d .nilp)) [],om_ 7 21 [0,1,0,1]]) .ret) .skip)) (.seq (.seq (.reg false [om_ 22 2 [],oo_ 23 (.mv (.d (.int .i64 0))) []]) (.block 0 (.loop (.seq (.reg false [oo_ 24
 (.bin .lss (.t 23) (.t 22)) []]) (.seq (.cond (.t 24) .skip (.exit 0)) (.seq (.block 1 (.seq (.reg false [om_ 25 23 [],om_ 10 25 [0,0]]) (.seq (.reg false [oo_ 27 (.load true 3 (.t 4)) [],om_ 28 0 [],oo_ 29 (.call 151
 [(.t 27),(.t 28)]) [0,1],om_ 26 29 [2],oo_ 30 (.ext (.t 26) 0) [3],oo_ 31 (.ext (.t 26) 1) [3],oo_ 11 (.new 211 [(.int .i64 0),(.int .i64 0),(.bool false)]) [],on_ (.store 3 (.t 11) (.t 30)) [6,4,2,0,1,2,3,4,6],om_ 12
 31 [5,7,0,1,2,3,4,5,6,7]]) (.seq (.seq (.reg false [om_ 32 12 [],oo_ 33 (.bin .neq (.t 32) (.d (.int .i64 0))) [0]]) (.cond (.t 33) (.seq (.reg false [om_ 34 12 [],oo_ 6 (.mv (.d .nilp)) [],om_ 7 34 [0,1,0,1]]) .ret)
 .skip)) (.reg false [om_ 35 8 [],om_ 36 10 [],oo_ 37 (.load true 3 (.t 11)) [],oo_ 38 (.call 152 [(.t 35),(.t 36),(.t 37)]) [0,1,2]]))))) (.reg false [oo_ 39 (.bin .add (.t 23) (.d (.int .i64 1))) [],om_ 23 39
 [0]]))))))) (.seq (.reg false [om_ 40 8 [],om_ 6 40 [0,0],oo_ 7 (.mv (.d (.int .i64 0))) [1,0,1]]) .ret)))))
theorem o_8t : fnOf Tryz.prog o_8r = some (o_8s, [.t 6, .t 7], 41, false) := by kernel_rfl

abbrev o_8u : FuncId := 94
def o_8v : C := (.seq (.reg false [oo_ 2 (.mv (.d .nilsl)) []]) (.seq (.seq (.reg false [om_ 3 0 [],oo_ 4 (.snl false (.t 3)) [0]]) (.cond (.t 4) (.seq (.reg false [oo_ 2 (.mv (.d .nilsl)) []]) .ret) .skip)) (.seq (.reg false [oo_ 5
 (.bsl0) [],om_ 6 0 [],oo_ 7 (.app 5 1 1 (.t 5) (.t 6)) [0,1],om_ 2 7 [2,2,0,1,2]]) .ret)))
theorem o_8w : fnOf Tryz.prog o_8u = some (o_8v, [.t 2], 8, false) := by kernel_rfl

abbrev o_8x : FuncId := 95
def o_8y : C := (.seq (.reg false [oo_ 2 (.box 150 (.t 0)) [],oo_ 3 (.box 150 (.t 1)) [],oo_ 4 (.mv (.d (.bool false))) []]) (.seq (.reg false [oo_ 5 (.fa 2 (.t 2)) [],oo_ 6 (.load false 1 (.t 5)) [0],oo_ 7 (.fa 2 (.t 3)) [],oo_ 8
 (.load false 1 (.t 7)) [2],oo_ 9 (.call 96 [(.t 6),(.t 8)]) [1,3],om_ 4 9 [4,4,0,1,2,3,4]]) .ret))
theorem o_8z : fnOf Tryz.prog o_8x = some (o_8y, [.t 4], 10, false) := by kernel_rfl

abbrev o_90 : FuncId := 96
def o_91 : C := (.seq (.reg false [oo_ 4 (.mv (.d (.bool false))) []]) (.seq (.reg true [om_ 5 0 [],oo_ 6 (.chk (.t 5)) [0],oo_ 7 (.fa 1 (.t 6)) [1],oo_ 8 (.load true 3 (.t 7)) [2],om_ 9 1 [],oo_ 10 (.chk (.t 9)) [4],oo_ 11 (.fa 1 (.t
 10)) [5],oo_ 12 (.load true 3 (.t 11)) [6],oo_ 13 (.aeq false [0,0,0] (.t 8) (.t 12)) [3,7],om_ 14 13 [8],og_ 15 (.mv (.t 0)) 14 true [9],og_ 16 (.chk (.t 15)) 14 true [10,9],og_ 17 (.fa 0 (.t 16)) 14 true [11,9],og_ 18
 (.load false 1 (.t 17)) 14 true [12,9],og_ 19 (.mv (.t 1)) 14 true [9],og_ 20 (.chk (.t 19)) 14 true [14,9],og_ 21 (.fa 0 (.t 20)) 14 true [15,9],og_ 22 (.load false 1 (.t 21)) 14 true [16,9],og_ 23 (.call 153 [(.t
 18),(.t 22)]) 14 true [13,17,9,9],oo_ 24 (.pick (.t 14) (.t 23) (.d (.bool false))) [9,18],om_ 4 24 [19,18,0,1,2,3,4,5,6,7,8,9,10,11,12,13,14,15,16,17,18,19]]) .ret))
theorem o_92 : fnOf Tryz.prog o_90 = some (o_91, [.t 4], 25, false) := by kernel_rfl

abbrev o_93 : FuncId := 97
def o_94 : C := (.seq (.reg false [oo_ 4 (.mv (.d (.bool false))) []]) (.seq (.reg true [om_ 5 0 [],oo_ 6 (.chk (.t 5)) [0],oo_ 7 (.fa 0 (.t 6)) [1],oo_ 8 (.load true 5 (.t 7)) [2],om_ 9 1 [],oo_ 10 (.chk (.t 9)) [4],oo_ 11 (.fa 0 (.t
 10)) [5],oo_ 12 (.load true 5 (.t 11)) [6],oo_ 13 (.aeq false [0,0,0,0,0] (.t 8) (.t 12)) [3,7],om_ 14 13 [8],og_ 15 (.mv (.t 0)) 14 true [9],og_ 16 (.call 155 [(.t 15)]) 14 true [10,9,9],og_ 17 (.mv (.t 1)) 14 true
 [9],og_ 18 (.call 155 [(.t 17)]) 14 true [12,11,9],og_ 19 (.call 154 [(.t 16),(.t 18)]) 14 true [11,13,13,9],oo_ 20 (.pick (.t 14) (.t 19) (.d (.bool false))) [9,14],om_ 4 20
 [15,14,0,1,2,3,4,5,6,7,8,9,10,11,12,13,14,15]]) .ret))
theorem o_95 : fnOf Tryz.prog o_93 = some (o_94, [.t 4], 21, false) := by kernel_rfl

abbrev o_96 : FuncId := 98
def o_97 : C := (.seq (.reg false [oo_ 6 (.mv (.d (.bool false))) []]) (.seq (.seq (.reg false [om_ 10 0 [],oo_ 11 (.len (.t 10)) [0],om_ 12 1 [],oo_ 13 (.len (.t 12)) [2],oo_ 14 (.bin .neq (.t 11) (.t 13)) [1,3]]) (.cond (.t 14) (.seq
 (.reg false [oo_ 6 (.mv (.d (.bool false))) []]) .ret) .skip)) (.seq (.seq (.reg false [om_ 15 0 [],oo_ 16 (.len (.t 15)) [0],oo_ 17 (.mv (.d (.int .i64 0))) []]) (.block 0 (.loop (.seq (.reg false [oo_ 18 (.bin .lss
 (.t 17) (.t 16)) []]) (.seq (.cond (.t 18) .skip (.exit 0)) (.seq (.block 1 (.seq (.reg false [om_ 19 17 [],oo_ 20 (.ix 3 (.t 15) (.t 17)) [],oo_ 21 (.load true 3 (.t 20)) [1],oo_ 8 (.new 150 [(.int .u64 0),(.int .u64
 0),.nilp]) [],om_ 7 19 [0,0,1,2,3],on_ (.store 3 (.t 8) (.t 21)) [3,2,4,0,1,2,3,4]]) (.seq (.reg false [om_ 22 1 [],om_ 23 7 [],oo_ 24 (.ix 3 (.t 22) (.t 23)) [0,1],oo_ 25 (.load true 3 (.t 24)) [2],oo_ 9 (.new 150
 [(.int .u64 0),(.int .u64 0),.nilp]) [],on_ (.store 3 (.t 9) (.t 25)) [4,3,0,1,2,3,4]]) (.seq (.reg false [om_ 26 2 [],oo_ 27 (.load true 3 (.t 8)) [],oo_ 28 (.load true 3 (.t 9)) [],oo_ 29 (.callv (.t 26) [(.t 27),(.t
 28)]) [0,1,2],oo_ 30 (.un .not (.t 29)) [3]]) (.cond (.t 30) (.seq (.reg false [oo_ 6 (.mv (.d (.bool false))) []]) .ret) .skip))))) (.reg false [oo_ 31 (.bin .add (.t 17) (.d (.int .i64 1))) [],om_ 17 31 [0]])))))))
 (.seq (.reg false [oo_ 6 (.mv (.d (.bool true))) []]) .ret))))
theorem o_98 : fnOf Tryz.prog o_96 = some (o_97, [.t 6], 32, false) := by kernel_rfl

abbrev o_99 : FuncId := 99
def o_9a : C := (.seq (.reg false [oo_ 2 (.mv (.d (.int .i64 0))) []]) (.seq (.reg false [om_ 3 0 [],oo_ 4 (.chk (.t 3)) [0],oo_ 5 (.fa 1 (.t 4)) [1],oo_ 6 (.load false 1 (.t 5)) [2],om_ 2 6 [3,0,1,2,3]]) .ret))
theorem o_9b : fnOf Tryz.prog o_99 = some (o_9a, [.t 2], 7, false) := by kernel_rfl

abbrev o_9c : FuncId := 102
def o_9d : C := (.seq (.reg false [oo_ 3 (.box 25 (.t 1)) [],oo_ 4 (.new 27 [.nilsl,(.bool false)]) []]) (.seq (.reg true [oo_ 5 (.load true 1 (.t 3)) [],om_ 6 0 [],om_ 7 6 [1],og_ 8 (.load true 1 (.t 3)) 7 true [2],og_ 9 (.call 105
 [(.t 8)]) 7 true [3,2,2],og_ 10 (.un .not (.t 9)) 7 true [4,2],oo_ 11 (.pick (.t 7) (.t 10) (.d (.bool false))) [2,5],oo_ 12 (.build [.nilsl,(.bool false)] [(0,1,(.t 5)),(1,1,(.t 11))]) [0,6],on_ (.store 2 (.t 4) (.t
 12)) [7,4,0,1,2,3,4,5,6,7]]) .ret))
theorem o_9e : fnOf Tryz.prog o_9c = some (o_9d, [.cell 4 true 2], 13, false) := by kernel_rfl

abbrev o_9f : FuncId := 105
def o_9g : C := (.seq (.reg false [oo_ 1 (.box 25 (.t 0)) [],oo_ 2 (.mv (.d (.bool false))) []]) (.seq (.reg false [oo_ 3 (.fa 0 (.t 1)) [],oo_ 4 (.load false 1 (.t 3)) [0],oo_ 5 (.len (.t 4)) [1],oo_ 6 (.bin .eql (.t 5) (.d (.int .i64
 0))) [2],om_ 2 6 [3,0,1,2,3]]) .ret))
theorem o_9h : fnOf Tryz.prog o_9f = some (o_9g, [.t 2], 7, false) := by kernel_rfl

abbrev o_9i : FuncId := 106
def o_9j : C := (.seq (.reg false [oo_ 2 (.box 25 (.t 0)) [],oo_ 3 (.box 25 (.t 1)) [],oo_ 4 (.new 25 [.nilsl]) []]) (.seq (.seq (.reg false [oo_ 10 (.fa 0 (.t 2)) [],oo_ 11 (.load false 1 (.t 10)) [0],oo_ 12 (.len (.t 11)) [1],oo_ 13
 (.fa 0 (.t 3)) [],oo_ 14 (.load false 1 (.t 13)) [3],oo_ 15 (.len (.t 14)) [4],oo_ 16 (.bin .lss (.t 12) (.t 15)) [2,5]]) (.cond (.t 16) (.reg false [oo_ 17 (.load true 1 (.t 3)) [],oo_ 18 (.load true 1 (.t 2)) [],on_
 (.store 1 (.t 2) (.t 17)) [0,0,1],on_ (.store 1 (.t 3) (.t 18)) [1,2,0,1,2]]) .skip)) (.seq (.reg false [oo_ 19 (.fa 0 (.t 2)) [],oo_ 20 (.load false 1 (.t 19)) [0],oo_ 21 (.len (.t 20)) [1],oo_ 22 (.bin .add (.t 21)
 (.d (.int .i64 1))) [2],oo_ 23 (.mksl 129 1 8 [(.int .u64 0)] (.t 22) (.t 22)) [3,3],om_ 5 23 [4,0,1,2,3,4]]) (.seq (.reg false [oo_ 6 (.mv (.d (.int .u64 0))) []]) (.seq (.seq (.reg false [oo_ 24 (.fa 0 (.t 2)) [],oo_
 25 (.load false 1 (.t 24)) [0],oo_ 26 (.len (.t 25)) [1],oo_ 27 (.mv (.d (.int .i64 0))) []]) (.block 0 (.loop (.seq (.reg false [oo_ 28 (.bin .lss (.t 27) (.t 26)) []]) (.seq (.cond (.t 28) .skip (.exit 0)) (.seq
 (.block 1 (.seq (.reg false [om_ 29 27 [],oo_ 30 (.ix 1 (.t 25) (.t 27)) [],oo_ 31 (.load false 1 (.t 30)) [1],om_ 7 29 [0,0,1,2],om_ 8 31 [2,3,0,1,2,3]]) (.seq (.reg false [oo_ 9 (.mv (.d (.int .u64 0))) []]) (.seq
 (.seq (.reg false [om_ 32 7 [],oo_ 33 (.fa 0 (.t 3)) [],oo_ 34 (.load false 1 (.t 33)) [1],oo_ 35 (.len (.t 34)) [2],oo_ 36 (.bin .lss (.t 32) (.t 35)) [0,3]]) (.cond (.t 36) (.reg false [oo_ 37 (.fa 0 (.t 3)) [],oo_ 38
 (.load false 1 (.t 37)) [0],om_ 39 7 [],oo_ 40 (.ix 1 (.t 38) (.t 39)) [1,2],oo_ 41 (.load false 1 (.t 40)) [3],om_ 9 41 [4,0,1,2,3,4]]) .skip)) (.reg false [om_ 43 5 [],om_ 44 7 [],om_ 45 8 [],om_ 46 9 [],om_ 47 6
 [],oo_ 48 (.call 117 [(.t 45),(.t 46),(.t 47)]) [2,3,4],om_ 42 48 [5],oo_ 49 (.ext (.t 42) 0) [6],oo_ 50 (.ext (.t 42) 1) [6],oo_ 51 (.ix 1 (.t 43) (.t 44)) [0,1,0,1,2,3,4,5,6,7],on_ (.store 1 (.t 51) (.t 49))
 [9,7,5,0,1,2,3,4,5,6,7],om_ 6 50 [8,10,0,1,2,3,4,5,6,7,8,9,10]]))))) (.reg false [oo_ 52 (.bin .add (.t 27) (.d (.int .i64 1))) [],om_ 27 52 [0]]))))))) (.seq (.reg false [om_ 53 5 [],oo_ 54 (.fa 0 (.t 2)) [],oo_ 55
 (.load false 1 (.t 54)) [1],oo_ 56 (.len (.t 55)) [2],om_ 57 6 [],oo_ 58 (.ix 1 (.t 53) (.t 56)) [0,3,0,1,2,3,4],on_ (.store 1 (.t 58) (.t 57)) [5,4,0,1,2,3,4]]) (.seq (.reg false [om_ 59 5 [],oo_ 60 (.call 109 [(.t
 59)]) [0],on_ (.store 1 (.t 4) (.t 60)) [1,1,0,1]]) .ret)))))))
theorem o_9k : fnOf Tryz.prog o_9i = some (o_9j, [.cell 4 true 1], 61, false) := by kernel_rfl

abbrev o_9l : FuncId := 107
def o_9m : C := (.seq (.reg false [oo_ 2 (.new 25 [.nilsl]) []]) (.seq (.reg false [om_ 3 0 [],oo_ 4 (.call 157 [(.t 3)]) [0],oo_ 5 (.call 109 [(.t 4)]) [1,1],on_ (.store 1 (.t 2) (.t 5)) [2,2,0,1,2]]) .ret))
theorem o_9n : fnOf Tryz.prog o_9l = some (o_9m, [.cell 2 true 1], 6, false) := by kernel_rfl

abbrev o_9o : FuncId := 108
def o_9p : C := (.seq (.reg false [oo_ 4 (.mv (.d .nilsl)) [],oo_ 5 (.mv (.d (.int .u64 0))) [0]]) (.seq (.reg false [om_ 9 0 [],oo_ 10 (.len (.t 9)) [0],oo_ 11 (.mksl 129 1 8 [(.int .u64 0)] (.t 10) (.t 10)) [1,1],om_ 6 11 [2,0,1,2]])
 (.seq (.reg false [oo_ 7 (.mv (.d (.int .u64 0))) []]) (.seq (.seq (.reg false [om_ 12 0 [],oo_ 13 (.len (.t 12)) [0],oo_ 14 (.bin .sub (.t 13) (.d (.int .i64 1))) [1],om_ 8 14 [2,0,1,2]]) (.block 0 (.loop (.seq (.seq
 (.reg false [om_ 15 8 [],oo_ 16 (.bin .geq (.t 15) (.d (.int .i64 0))) [0]]) (.cond (.t 16) .skip (.exit 0))) (.seq (.block 1 (.reg false [om_ 20 6 [],om_ 21 8 [],om_ 22 7 [],om_ 23 0 [],om_ 24 8 [],oo_ 25 (.ix 1 (.t
 23) (.t 24)) [3,4],oo_ 26 (.load false 1 (.t 25)) [5],om_ 27 1 [],oo_ 28 (.call 158 [(.t 22),(.t 26),(.t 27)]) [2,6,7],om_ 19 28 [8],oo_ 29 (.ext (.t 19) 0) [9],oo_ 30 (.ext (.t 19) 1) [9],oo_ 31 (.ix 1 (.t 20) (.t 21))
 [0,1,0,1,2,3,4,5,6,7,8,9,10],on_ (.store 1 (.t 31) (.t 29)) [12,10,8,0,1,2,3,4,5,6,7,8,9,10],om_ 7 30 [11,13,0,1,2,3,4,5,6,7,8,9,10,11,12,13]])) (.reg false [om_ 17 8 [],oo_ 18 (.bin .sub (.t 17) (.d (.int .i64 1)))
 [0],om_ 8 18 [1,0,1]])))))) (.seq (.reg false [om_ 32 6 [],om_ 33 7 [],om_ 4 32 [0,0],om_ 5 33 [1,2,0,1,2]]) .ret)))))
theorem o_9q : fnOf Tryz.prog o_9o = some (o_9p, [.t 4, .t 5], 34, false) := by kernel_rfl

abbrev o_9r : FuncId := 109
def o_9s : C := (.seq (.reg false [oo_ 2 (.new 25 [.nilsl]) []]) (.seq (.reg false [om_ 4 0 [],oo_ 5 (.len (.t 4)) [0],om_ 3 5 [1,0,1]]) (.seq (.block 0 (.loop (.seq (.seq (.reg false [om_ 6 3 [],oo_ 7 (.bin .gtr (.t 6) (.d (.int .i64
 0))) [0],om_ 8 7 [1],og_ 9 (.mv (.t 0)) 8 true [2],og_ 10 (.mv (.t 3)) 8 true [2],og_ 11 (.bin .sub (.t 10) (.d (.int .i64 1))) 8 true [4,2],og_ 12 (.ix 1 (.t 9) (.t 11)) 8 true [3,5,2],og_ 13 (.load false 1 (.t 12)) 8
 true [6,2],og_ 14 (.bin .eql (.t 13) (.d (.int .u64 0))) 8 true [7,2],oo_ 15 (.pick (.t 8) (.t 14) (.d (.bool false))) [2,8]]) (.cond (.t 15) .skip (.exit 0))) (.block 1 (.reg false [om_ 16 3 [],oo_ 17 (.bin .sub (.t
 16) (.d (.int .i64 1))) [0],om_ 3 17 [1,0,1]]))))) (.seq (.reg false [om_ 18 0 [],om_ 19 3 [],oo_ 20 (.slice 1 (.t 18) none (some (.t 19)) none) [0,1],oo_ 21 (.build [.nilsl] [(0,1,(.t 20))]) [2],on_ (.store 1 (.t 2)
 (.t 21)) [3,0,1,2,3]]) .ret))))
theorem o_9t : fnOf Tryz.prog o_9r = some (o_9s, [.cell 2 true 1], 22, false) := by kernel_rfl

abbrev o_9u : FuncId := 110
def o_9v : C := (.seq (.reg false [⟨some 4,.mv (.d (.str ⟨#[]⟩)),none,[]⟩]) (.seq (.reg false [om_ 5 0 [],om_ 6 1 [],oo_ 7 (.call 159 [(.t 5),(.t 6)]) [0,1],om_ 4 7 [2,2,0,1,2]]) .ret))
theorem o_9w : fnOf Tryz.prog o_9u = some (o_9v, [.t 4], 8, false) := by kernel_rfl

abbrev o_9x : FuncId := 112
def o_9y : C := (.seq (.reg false [oo_ 2 (.box 25 (.t 0)) [],oo_ 3 (.box 25 (.t 1)) [],oo_ 4 (.mv (.d (.int .i64 0))) []]) (.seq (.seq (.reg false [oo_ 9 (.fa 0 (.t 2)) [],oo_ 10 (.load false 1 (.t 9)) [0],oo_ 11 (.len (.t 10)) [1],oo_
 12 (.fa 0 (.t 3)) [],oo_ 13 (.load false 1 (.t 12)) [3],oo_ 14 (.len (.t 13)) [4],oo_ 15 (.bin .sub (.t 11) (.t 14)) [2,5],om_ 5 15 [6,0,1,2,3,4,5,6]]) (.seq (.reg false [om_ 16 5 [],oo_ 17 (.bin .neq (.t 16) (.d (.int
 .i64 0))) [0]]) (.cond (.t 17) (.seq (.reg false [om_ 18 5 [],oo_ 19 (.mm false [(.t 18),(.d (.int .i64 1))]) [0],oo_ 20 (.mm true [(.d (.int .i64 (-1))),(.t 19)]) [1],om_ 4 20 [2,0,1,2]]) .ret) .skip))) (.seq (.seq
 (.reg false [oo_ 21 (.fa 0 (.t 2)) [],oo_ 22 (.load false 1 (.t 21)) [0],oo_ 23 (.len (.t 22)) [1],oo_ 24 (.bin .sub (.t 23) (.d (.int .i64 1))) [2],om_ 6 24 [3,0,1,2,3]]) (.block 0 (.loop (.seq (.seq (.reg false [om_
 25 6 [],oo_ 26 (.bin .geq (.t 25) (.d (.int .i64 0))) [0]]) (.cond (.t 26) .skip (.exit 0))) (.seq (.block 1 (.seq (.reg true [oo_ 29 (.fa 0 (.t 2)) [],oo_ 30 (.load false 1 (.t 29)) [0],om_ 31 6 [],oo_ 32 (.ix 1 (.t
 30) (.t 31)) [1,2],oo_ 33 (.load false 1 (.t 32)) [3],oo_ 34 (.fa 0 (.t 3)) [],oo_ 35 (.load false 1 (.t 34)) [5],om_ 36 6 [],oo_ 37 (.ix 1 (.t 35) (.t 36)) [6,7],oo_ 38 (.load false 1 (.t 37)) [8],om_ 7 33
 [4,0,1,2,3,4],om_ 8 38 [9,10,0,1,2,3,4,5,6,7,8,9,10]]) (.block 2 (.seq (.reg false [om_ 40 7 [],om_ 41 8 [],oo_ 42 (.bin .lss (.t 40) (.t 41)) [0,1],om_ 39 42 [2]]) (.cond (.t 39) (.seq (.reg false [oo_ 4 (.mv (.d (.int
 .i64 (-1)))) []]) .ret) (.seq (.reg false [om_ 44 7 [],om_ 45 8 [],oo_ 46 (.bin .gtr (.t 44) (.t 45)) [0,1],om_ 43 46 [2]]) (.cond (.t 43) (.seq (.reg false [oo_ 4 (.mv (.d (.int .i64 1))) []]) .ret) .skip))))))) (.reg
 false [om_ 27 6 [],oo_ 28 (.bin .sub (.t 27) (.d (.int .i64 1))) [0],om_ 6 28 [1,0,1]])))))) (.seq (.reg false [oo_ 4 (.mv (.d (.int .i64 0))) []]) .ret))))
theorem o_9z : fnOf Tryz.prog o_9x = some (o_9y, [.t 4], 47, false) := by kernel_rfl

abbrev o_a0 : FuncId := 115
def o_a1 : C := (.seq (.reg false [oo_ 2 (.box 25 (.t 0)) [],oo_ 3 (.box 25 (.t 1)) [],oo_ 4 (.new 25 [.nilsl]) [],oo_ 5 (.mv (.d (.int .i64 0))) []]) (.seq (.seq (.reg false [oo_ 11 (.load true 1 (.t 2)) [],oo_ 12 (.load true 1 (.t
 3)) [],oo_ 13 (.call 112 [(.t 11),(.t 12)]) [0,1],oo_ 14 (.bin .lss (.t 13) (.d (.int .i64 0))) [2]]) (.cond (.t 14) (.seq (.reg false [oo_ 15 (.build [.nilsl] []) [],on_ (.store 1 (.t 4) (.t 15)) [0,0],oo_ 5 (.mv (.d
 (.int .i64 2))) [1,0,1]]) .ret) .skip)) (.seq (.reg false [oo_ 16 (.fa 0 (.t 2)) [],oo_ 17 (.load false 1 (.t 16)) [0],oo_ 18 (.len (.t 17)) [1],oo_ 19 (.mksl 129 1 8 [(.int .u64 0)] (.t 18) (.t 18)) [2,2],om_ 6 19
 [3,0,1,2,3]]) (.seq (.reg false [oo_ 7 (.mv (.d (.int .u64 0))) []]) (.seq (.seq (.reg false [oo_ 20 (.fa 0 (.t 2)) [],oo_ 21 (.load false 1 (.t 20)) [0],oo_ 22 (.len (.t 21)) [1],oo_ 23 (.mv (.d (.int .i64 0))) []])
 (.block 0 (.loop (.seq (.reg false [oo_ 24 (.bin .lss (.t 23) (.t 22)) []]) (.seq (.cond (.t 24) .skip (.exit 0)) (.seq (.block 1 (.seq (.reg false [om_ 25 23 [],oo_ 26 (.ix 1 (.t 21) (.t 23)) [],oo_ 27 (.load false 1
 (.t 26)) [1],om_ 8 25 [0,0,1,2],om_ 9 27 [2,3,0,1,2,3]]) (.seq (.reg false [oo_ 10 (.mv (.d (.int .u64 0))) []]) (.seq (.seq (.reg false [om_ 28 8 [],oo_ 29 (.fa 0 (.t 3)) [],oo_ 30 (.load false 1 (.t 29)) [1],oo_ 31
 (.len (.t 30)) [2],oo_ 32 (.bin .lss (.t 28) (.t 31)) [0,3]]) (.cond (.t 32) (.reg false [oo_ 33 (.fa 0 (.t 3)) [],oo_ 34 (.load false 1 (.t 33)) [0],om_ 35 8 [],oo_ 36 (.ix 1 (.t 34) (.t 35)) [1,2],oo_ 37 (.load false
 1 (.t 36)) [3],om_ 10 37 [4,0,1,2,3,4]]) .skip)) (.reg false [om_ 39 6 [],om_ 40 8 [],om_ 41 9 [],om_ 42 10 [],om_ 43 7 [],oo_ 44 (.call 167 [(.t 41),(.t 42),(.t 43)]) [2,3,4],om_ 38 44 [5],oo_ 45 (.ext (.t 38) 0)
 [6],oo_ 46 (.ext (.t 38) 1) [6],oo_ 47 (.ix 1 (.t 39) (.t 40)) [0,1,0,1,2,3,4,5,6,7],on_ (.store 1 (.t 47) (.t 45)) [9,7,5,0,1,2,3,4,5,6,7],om_ 7 46 [8,10,0,1,2,3,4,5,6,7,8,9,10]]))))) (.reg false [oo_ 48 (.bin .add (.t
 23) (.d (.int .i64 1))) [],om_ 23 48 [0]]))))))) (.seq (.reg false [om_ 49 6 [],oo_ 50 (.call 109 [(.t 49)]) [0],on_ (.store 1 (.t 4) (.t 50)) [1,1,0,1],oo_ 5 (.mv (.d (.int .i64 0))) [2,0,1,2]]) .ret))))))
theorem o_a2 : fnOf Tryz.prog o_a0 = some (o_a1, [.cell 4 true 1, .t 5], 51, false) := by kernel_rfl

abbrev o_a3 : FuncId := 116
def o_a4 : C := (.seq (.reg false [oo_ 4 (.mv (.d (.int .u64 0))) [],oo_ 5 (.mv (.d (.int .u64 0))) [0]]) (.seq (.reg false [om_ 14 0 [],oo_ 15 (.bin .and (.t 14) (.d (.int .u64 4294967295))) [0],om_ 6 15 [1,0,1]]) (.seq (.reg false
 [om_ 16 0 [],oo_ 17 (.bin .shr (.t 16) (.d (.int .u64 32))) [0],om_ 7 17 [1,0,1]]) (.seq (.reg false [om_ 18 1 [],oo_ 19 (.bin .and (.t 18) (.d (.int .u64 4294967295))) [0],om_ 8 19 [1,0,1]]) (.seq (.reg false [om_ 20 1
 [],oo_ 21 (.bin .shr (.t 20) (.d (.int .u64 32))) [0],om_ 9 21 [1,0,1]]) (.seq (.reg false [om_ 22 6 [],om_ 23 8 [],oo_ 24 (.bin .mul (.t 22) (.t 23)) [0,1],om_ 10 24 [2,0,1,2]]) (.seq (.reg false [om_ 25 7 [],om_ 26 8
 [],oo_ 27 (.bin .mul (.t 25) (.t 26)) [0,1],om_ 28 10 [],oo_ 29 (.bin .shr (.t 28) (.d (.int .u64 32))) [3],oo_ 30 (.bin .add (.t 27) (.t 29)) [2,4],om_ 11 30 [5,0,1,2,3,4,5]]) (.seq (.reg false [om_ 31 11 [],oo_ 32
 (.bin .and (.t 31) (.d (.int .u64 4294967295))) [0],om_ 12 32 [1,0,1]]) (.seq (.reg false [om_ 33 11 [],oo_ 34 (.bin .shr (.t 33) (.d (.int .u64 32))) [0],om_ 13 34 [1,0,1]]) (.seq (.reg false [om_ 35 12 [],om_ 36 6
 [],om_ 37 9 [],oo_ 38 (.bin .mul (.t 36) (.t 37)) [1,2],oo_ 39 (.bin .add (.t 35) (.t 38)) [0,3],om_ 12 39 [4,0,1,2,3,4]]) (.seq (.reg false [om_ 40 7 [],om_ 41 9 [],oo_ 42 (.bin .mul (.t 40) (.t 41)) [0,1],om_ 43 13
 [],oo_ 44 (.bin .add (.t 42) (.t 43)) [2,3],om_ 45 12 [],oo_ 46 (.bin .shr (.t 45) (.d (.int .u64 32))) [5],oo_ 47 (.bin .add (.t 44) (.t 46)) [4,6],om_ 4 47 [7,0,1,2,3,4,5,6,7]]) (.seq (.reg false [om_ 48 0 [],om_ 49 1
 [],oo_ 50 (.bin .mul (.t 48) (.t 49)) [0,1],om_ 5 50 [2,0,1,2]]) .ret))))))))))))
theorem o_a5 : fnOf Tryz.prog o_a3 = some (o_a4, [.t 4, .t 5], 51, false) := by kernel_rfl

abbrev o_a6 : FuncId := 127
def o_a7 : C := (.seq (.reg false [oo_ 2 (.mv (.d (.int .i64 0))) []]) (.seq (.cond (.d (.bool false)) (.seq (.reg false [om_ 3 0 [],oo_ 4 (.conv .u32 (.t 3)) [0],oo_ 5 (.call 170 [(.t 4)]) [1],om_ 2 5 [2,2,0,1,2]]) .ret) .skip) (.seq
 (.reg false [om_ 6 0 [],oo_ 7 (.call 171 [(.t 6)]) [0],om_ 2 7 [1,1,0,1]]) .ret)))
theorem o_a8 : fnOf Tryz.prog o_a6 = some (o_a7, [.t 2], 8, false) := by kernel_rfl

abbrev o_a9 : FuncId := 136
def o_aa : C := (.seq (.reg false [oo_ 2 (.box 86 (.t 0)) [],oo_ 4 (.mv (.d .nilp)) [],oo_ 5 (.mv (.d (.int .i64 0))) [1]]) (.seq (.seq (.reg false [oo_ 8 (.load true 3 (.t 2)) [],oo_ 9 (.call 149 [(.t 8)]) [0],oo_ 10 (.bin .neq (.t 9)
 (.d (.int .i64 0))) [1],om_ 11 10 [2,1],og_ 12 (.mv (.t 1)) 11 false [3],og_ 13 (.bin .lss (.t 12) (.d (.int .i64 1))) 11 false [4,3],oo_ 14 (.pick (.t 11) (.d (.bool true)) (.t 13)) [3,5],om_ 15 14 [6,3],og_ 16 (.mv
 (.t 1)) 15 false [7],og_ 17 (.bin .gtr (.t 16) (.d (.int .i64 256))) 15 false [8,7],oo_ 18 (.pick (.t 15) (.d (.bool true)) (.t 17)) [7,9]]) (.cond (.t 18) (.seq (.reg false [oo_ 4 (.mv (.d .nilp)) [],oo_ 5 (.mv (.d
 (.int .i64 10))) [0,0]]) .ret) .skip)) (.seq (.reg false [om_ 20 1 [],oo_ 21 (.load true 3 (.t 2)) [],oo_ 22 (.call 175 [(.t 21)]) [1],oo_ 23 (.call 174 [(.t 20),(.t 22)]) [0,2,2],om_ 19 23 [3],oo_ 24 (.ext (.t 19) 0)
 [4],oo_ 25 (.ext (.t 19) 1) [4],om_ 6 24 [5,3,0,1,2,3,4,5],om_ 7 25 [6,7,0,1,2,3,4,5,6,7]]) (.seq (.seq (.reg false [om_ 26 7 [],oo_ 27 (.bin .neq (.t 26) (.d (.int .i64 0))) [0]]) (.cond (.t 27) (.seq (.reg false [om_
 28 7 [],oo_ 4 (.mv (.d .nilp)) [],om_ 5 28 [0,1,0,1]]) .ret) .skip)) (.seq (.reg false [om_ 29 6 [],oo_ 30 (.load true 3 (.t 2)) [],oo_ 31 (.build [.nilp,(.int .i64 0),(.int .i64 0),(.int .i64 0)] [(0,1,(.t
 29)),(1,3,(.t 30))]) [0,1],oo_ 32 (.box 154 (.t 31)) [2],om_ 4 32 [3,0,1,2,3],oo_ 5 (.mv (.d (.int .i64 0))) [4,0,1,2,3,4]]) .ret)))))
theorem o_ab : fnOf Tryz.prog o_a9 = some (o_aa, [.t 4, .t 5], 33, false) := by kernel_rfl

abbrev o_ac : FuncId := 137
def o_ad : C := (.seq (.reg false [oo_ 2 (.mv (.d .nilp)) []]) (.seq (.reg false [om_ 6 0 [],oo_ 7 (.chk (.t 6)) [0],oo_ 8 (.load true 7 (.t 7)) [1],oo_ 3 (.new 147 [(.int .i64 0),(.int .i64 0),(.int .i64 0),(.int .i64 0),(.int .i64
 0),.nilsl,(.int .i64 0)]) [],on_ (.store 7 (.t 3) (.t 8)) [3,2,0,1,2,3]]) (.seq (.reg false [om_ 9 0 [],oo_ 10 (.chk (.t 9)) [0],oo_ 11 (.fa 5 (.t 10)) [1],oo_ 12 (.load false 1 (.t 11)) [2],oo_ 13 (.call 176 [(.t 12)])
 [3],oo_ 14 (.fa 5 (.t 3)) [0,1,2,3,4],on_ (.store 1 (.t 14) (.t 13)) [5,4,4,0,1,2,3,4]]) (.seq (.seq (.reg false [om_ 15 0 [],oo_ 16 (.chk (.t 15)) [0],oo_ 17 (.fa 5 (.t 16)) [1],oo_ 18 (.load false 1 (.t 17)) [2],oo_
 19 (.len (.t 18)) [3],oo_ 20 (.mv (.d (.int .i64 0))) []]) (.block 0 (.loop (.seq (.reg false [oo_ 21 (.bin .lss (.t 20) (.t 19)) []]) (.seq (.cond (.t 21) .skip (.exit 0)) (.seq (.block 1 (.seq (.reg false [om_ 22 20
 [],oo_ 23 (.ix 3 (.t 18) (.t 20)) [],oo_ 24 (.load true 3 (.t 23)) [1],oo_ 5 (.new 150 [(.int .u64 0),(.int .u64 0),.nilp]) [],om_ 4 22 [0,0,1,2,3],on_ (.store 3 (.t 5) (.t 24)) [3,2,4,0,1,2,3,4]]) (.reg true [oo_ 25
 (.fa 5 (.t 3)) [],oo_ 26 (.load false 1 (.t 25)) [0],om_ 27 4 [],oo_ 28 (.fa 2 (.t 5)) [],oo_ 29 (.load false 1 (.t 28)) [3],oo_ 30 (.call 177 [(.t 29)]) [4],oo_ 31 (.ix 3 (.t 26) (.t 27)) [1,2,0,1,2,3,4,5],oo_ 32 (.fa
 2 (.t 31)) [6,0,1,2,3,4,5],on_ (.store 1 (.t 32) (.t 30)) [7,5,5,0,1,2,3,4,5]]))) (.reg false [oo_ 33 (.bin .add (.t 20) (.d (.int .i64 1))) [],om_ 20 33 [0]]))))))) (.seq (.reg false [om_ 2 3 []]) .ret)))))
theorem o_ae : fnOf Tryz.prog o_ac = some (o_ad, [.t 2], 34, false) := by kernel_rfl

abbrev o_af : FuncId := 138
def o_ag : C := (.seq (.reg false [oo_ 3 (.box 131 (.t 0)) [],oo_ 6 (.mv (.d (.int .i64 0))) [],oo_ 7 (.mv (.d (.int .i64 0))) [1]]) (.seq (.seq (.reg false [oo_ 9 (.load true 2 (.t 3)) [],oo_ 10 (.call 92 [(.t 9)]) [0],om_ 8 10
 [1,1,0,1]]) (.block 0 (.seq (.reg false [om_ 12 8 [],oo_ 13 (.bin .neq (.t 12) (.d (.int .i64 0))) [0],om_ 11 13 [1]]) (.cond (.t 11) (.seq (.reg false [om_ 14 8 [],oo_ 6 (.mv (.d (.int .i64 0))) [],om_ 7 14 [0,1,0,1]])
 .ret) (.seq (.reg false [om_ 16 1 [],oo_ 17 (.bin .geq (.t 16) (.d (.int .u64 2305843009213693951))) [0],om_ 15 17 [1]]) (.cond (.t 15) (.seq (.reg false [oo_ 6 (.mv (.d (.int .i64 0))) [],oo_ 7 (.mv (.d (.int .i64 2)))
 [0,0]]) .ret) (.seq (.reg false [om_ 19 2 [],oo_ 20 (.bin .lss (.t 19) (.d (.int .i64 1))) [0],om_ 21 20 [1],og_ 22 (.mv (.t 2)) 21 false [2],og_ 23 (.bin .gtr (.t 22) (.d (.int .i64 64))) 21 false [3,2],oo_ 24 (.pick
 (.t 21) (.d (.bool true)) (.t 23)) [2,4],om_ 18 24 [5,2]]) (.cond (.t 18) (.seq (.reg false [oo_ 6 (.mv (.d (.int .i64 0))) [],oo_ 7 (.mv (.d (.int .i64 10))) [0,0]]) .ret) .skip)))))))) (.seq (.reg false [oo_ 25 (.load
 true 2 (.t 3)) [],om_ 26 1 [],oo_ 27 (.call 178 [(.t 25),(.t 26)]) [0,1],om_ 28 2 [],oo_ 29 (.conv .u64 (.t 28)) [3],oo_ 30 (.bin .rem (.t 27) (.t 29)) [2,4],oo_ 31 (.conv .i64 (.t 30)) [5],om_ 6 31
 [6,2,0,1,2,3,4,5,6],oo_ 7 (.mv (.d (.int .i64 0))) [7,0,1,2,3,4,5,6,7]]) .ret)))
theorem o_ah : fnOf Tryz.prog o_af = some (o_ag, [.t 6, .t 7], 32, false) := by kernel_rfl

abbrev o_ai : FuncId := 139
def o_aj : C := (.seq (.reg false [oo_ 8 (.mv (.d (.int .i64 0))) []]) (.seq (.reg false [om_ 12 0 [],om_ 13 2 [],oo_ 14 (.call 140 [(.t 12),(.t 13)]) [0,1],om_ 11 14 [2],oo_ 15 (.ext (.t 11) 0) [3],oo_ 16 (.ext (.t 11) 1) [3],oo_ 9
 (.new 211 [(.int .i64 0),(.int .i64 0),(.bool false)]) [],on_ (.store 3 (.t 9) (.t 15)) [6,4,2,0,1,2,3,4,6],om_ 10 16 [5,7,0,1,2,3,4,5,6,7]]) (.seq (.seq (.reg false [om_ 17 10 [],oo_ 18 (.bin .neq (.t 17) (.d (.int
 .i64 0))) [0]]) (.cond (.t 18) (.seq (.reg false [om_ 19 10 [],om_ 8 19 [0,0]]) .ret) .skip)) (.seq (.seq (.reg true [om_ 21 0 [],oo_ 22 (.chk (.t 21)) [0],oo_ 23 (.fa 1 (.t 22)) [1],oo_ 24 (.load true 3 (.t 23))
 [2],om_ 25 1 [],oo_ 26 (.load true 3 (.t 9)) [],om_ 27 3 [],oo_ 28 (.call 179 [(.t 24),(.t 25),(.t 26),(.t 27)]) [3,4,5,6],om_ 20 28 [7],oo_ 29 (.ext (.t 20) 0) [8],oo_ 30 (.ext (.t 20) 1) [8],on_ (.store 3 (.t 9) (.t
 29)) [9,7,0,1,2,3,4,5,6,7,8,9],om_ 10 30 [10,11,0,1,2,3,4,5,6,7,8,9,10,11]]) (.seq (.reg false [om_ 31 10 [],oo_ 32 (.bin .neq (.t 31) (.d (.int .i64 0))) [0]]) (.cond (.t 32) (.seq (.reg false [om_ 33 10 [],om_ 8 33
 [0,0]]) .ret) .skip))) (.seq (.reg false [om_ 34 0 [],om_ 35 2 [],oo_ 36 (.load true 3 (.t 9)) [],oo_ 37 (.call 152 [(.t 34),(.t 35),(.t 36)]) [0,1,2],om_ 8 37 [3,3,0,1,2,3]]) .ret)))))
theorem o_ak : fnOf Tryz.prog o_ai = some (o_aj, [.t 8], 38, false) := by kernel_rfl

abbrev o_al : FuncId := 140
def o_am : C := (.seq (.reg false [oo_ 4 (.new 211 [(.int .i64 0),(.int .i64 0),(.bool false)]) [],oo_ 5 (.mv (.d (.int .i64 0))) []]) (.seq (.reg false [om_ 10 0 [],oo_ 11 (.chk (.t 10)) [0],oo_ 12 (.fa 0 (.t 11)) [1],oo_ 13 (.load
 false 1 (.t 12)) [2],om_ 14 1 [],oo_ 15 (.call 148 [(.t 13),(.t 14)]) [3,4],om_ 9 15 [5],oo_ 16 (.ext (.t 9) 0) [6],oo_ 17 (.ext (.t 9) 1) [6],om_ 6 16 [7,5,0,1,2,3,4,5,6,7],om_ 7 17 [8,9,0,1,2,3,4,5,6,7,8,9]]) (.seq
 (.seq (.reg false [om_ 18 7 [],oo_ 19 (.bin .neq (.t 18) (.d (.int .i64 0))) [0]]) (.cond (.t 19) (.seq (.reg false [oo_ 20 (.build [(.int .i64 0),(.int .i64 0),(.bool false)] []) [],om_ 21 7 [],on_ (.store 3 (.t 4) (.t
 20)) [0,0],om_ 5 21 [1,2,0,1,2]]) .ret) .skip)) (.seq (.reg false [oo_ 8 (.new 78 [.nilsl,(.int .i64 0)]) []]) (.seq (.reg false [om_ 22 6 [],om_ 23 0 [],oo_ 24 (.chk (.t 23)) [1],oo_ 25 (.fa 0 (.t 24)) [2],oo_ 26
 (.load false 1 (.t 25)) [3],oo_ 27 (.call 180 [(.t 26)]) [4],oo_ 28 (.call 87 [(.t 8),(.t 22),(.t 27)]) [0,5,5]]) (.seq (.reg true [om_ 29 0 [],oo_ 30 (.chk (.t 29)) [0],oo_ 31 (.fa 1 (.t 30)) [1],oo_ 32 (.load true 3
 (.t 31)) [2],oo_ 33 (.call 35 [(.t 8)]) [],oo_ 34 (.call 34 [(.t 33)]) [4,4],oo_ 35 (.call 151 [(.t 32),(.t 34)]) [3,5,5],oo_ 36 (.ext (.t 35) 0) [6],oo_ 37 (.ext (.t 35) 1) [6],on_ (.store 3 (.t 4) (.t 36))
 [7,6,0,1,2,3,4,5,6,7,8],om_ 5 37 [8,9,0,1,2,3,4,5,6,7,8,9]]) .ret))))))
theorem o_an : fnOf Tryz.prog o_al = some (o_am, [.cell 4 true 3, .t 5], 38, false) := by kernel_rfl

abbrev o_ao : FuncId := 141
def o_ap : C := (.seq (.reg false [oo_ 2 (.box 86 (.t 0)) [],oo_ 3 (.box 211 (.t 1)) [],oo_ 4 (.new 29 [.nilsl,(.bool false),.nilsl]) [],oo_ 5 (.mv (.d (.int .i64 0))) []]) (.seq (.seq (.reg false [oo_ 9 (.load true 3 (.t 2)) [],oo_ 10
 (.load true 3 (.t 3)) [],oo_ 11 (.bsl 211 3 1 [(.int .i64 0),(.int .i64 0),(.bool false)] [(0,3,(.t 10))]) [1],oo_ 12 (.call 181 [(.t 9),(.t 11)]) [0,2],om_ 6 12 [3,3,0,1,2,3]]) (.seq (.reg false [om_ 13 6 [],oo_ 14
 (.bin .neq (.t 13) (.d (.int .i64 0))) [0]]) (.cond (.t 14) (.seq (.reg false [oo_ 15 (.build [.nilsl,(.bool false),.nilsl] []) [],om_ 16 6 [],on_ (.store 3 (.t 4) (.t 15)) [0,0],om_ 5 16 [1,2,0,1,2]]) .ret) .skip)))
 (.seq (.seq (.reg false [oo_ 17 (.fa 0 (.t 2)) [],oo_ 18 (.load false 1 (.t 17)) [0],oo_ 19 (.bin .eql (.t 18) (.d (.int .i64 4))) [1]]) (.cond (.t 19) (.seq (.reg true [oo_ 21 (.load true 3 (.t 2)) [],oo_ 22 (.call 182
 [(.t 21)]) [0],oo_ 23 (.load true 3 (.t 3)) [],oo_ 24 (.call 184 [(.t 23)]) [2,1],oo_ 25 (.call 183 [(.t 22),(.t 24)]) [1,3,3],om_ 20 25 [4],oo_ 26 (.ext (.t 20) 0) [5],oo_ 27 (.ext (.t 20) 1) [5],oo_ 7 (.new 25
 [.nilsl]) [],on_ (.store 1 (.t 7) (.t 26)) [8,6,4,0,1,2,3,4,5,6,8],om_ 8 27 [7,9,0,1,2,3,4,5,6,7,8,9]]) (.seq (.reg false [oo_ 28 (.load true 1 (.t 7)) [],oo_ 29 (.call 185 [(.t 28)]) [0],om_ 30 8 [],on_ (.store 3 (.t
 4) (.t 29)) [1,1,0,1],om_ 5 30 [2,3,0,1,2,3]]) .ret)) .skip)) (.seq (.reg true [oo_ 31 (.load true 3 (.t 2)) [],oo_ 32 (.call 186 [(.t 31)]) [0],oo_ 33 (.fa 0 (.t 3)) [],oo_ 34 (.load false 1 (.t 33)) [2],oo_ 35 (.call
 187 [(.t 32),(.t 34)]) [1,3,1],oo_ 36 (.ext (.t 35) 0) [4],oo_ 37 (.ext (.t 35) 1) [4],on_ (.store 3 (.t 4) (.t 36)) [5,4,0,1,2,3,4,5,6],om_ 5 37 [6,7,0,1,2,3,4,5,6,7]]) .ret))))
theorem o_aq : fnOf Tryz.prog o_ao = some (o_ap, [.cell 4 true 3, .t 5], 38, false) := by kernel_rfl

abbrev o_ar : FuncId := 142
def o_as : C := (.seq (.reg false [oo_ 2 (.box 68 (.t 0)) [],oo_ 3 (.box 215 (.t 1)) [],oo_ 4 (.new 68 [(.int .i64 0),(.int .i64 0),(.int .i64 0)]) [],oo_ 5 (.new 215 [(.int .i64 0),(.int .i64 0),(.bool false)]) []]) (.seq (.reg false
 [oo_ 6 (.fa 0 (.t 2)) [],oo_ 7 (.load false 1 (.t 6)) [0],oo_ 8 (.bin .rem (.t 7) (.d (.int .i64 4))) [1],oo_ 9 (.bin .add (.t 8) (.d (.int .i64 4))) [2],oo_ 10 (.bin .rem (.t 9) (.d (.int .i64 4))) [3],oo_ 11 (.bin
 .add (.d (.int .i64 1)) (.t 10)) [4],oo_ 12 (.fa 0 (.t 2)) [0,1,2,3,4,5],on_ (.store 1 (.t 12) (.t 11)) [6,5,0,1,2,3,4,5]]) (.seq (.seq (.reg false [oo_ 13 (.fa 0 (.t 2)) [],oo_ 14 (.load false 1 (.t 13)) [0]]) (.block
 0 (.seq (.reg false [oo_ 25 (.bin .eql (.t 14) (.d (.int .i64 1))) [],om_ 24 25 [0]]) (.cond (.t 24) (.reg false [oo_ 26 (.fa 1 (.t 2)) [],oo_ 27 (.load false 1 (.t 26)) [0],oo_ 28 (.bin .and (.t 27) (.d (.int .i64 3)))
 [1],oo_ 29 (.bin .add (.d (.int .i64 1)) (.t 28)) [2],oo_ 30 (.fa 2 (.t 2)) [],oo_ 31 (.load false 1 (.t 30)) [4],oo_ 32 (.bin .and (.t 31) (.d (.int .i64 255))) [5],oo_ 33 (.bin .rem (.t 32) (.d (.int .i64 4))) [6],oo_
 34 (.bin .add (.d (.int .i64 1)) (.t 33)) [7],oo_ 35 (.fa 1 (.t 2)) [0,1,2,3,4,5],on_ (.store 1 (.t 35) (.t 29)) [9,3,0,1,2,3,4,5],oo_ 36 (.fa 2 (.t 2)) [0,1,2,3,4,5,6,7,8,9,10],on_ (.store 1 (.t 36) (.t 34))
 [11,8,10,0,1,2,3,4,5,6,7,8,9,10]]) (.seq (.reg false [oo_ 38 (.bin .eql (.t 14) (.d (.int .i64 2))) [],om_ 37 38 [0]]) (.cond (.t 37) (.reg false [oo_ 39 (.fa 1 (.t 2)) [],oo_ 40 (.load false 1 (.t 39)) [0],oo_ 41 (.bin
 .and (.t 40) (.d (.int .i64 1))) [1],oo_ 42 (.fa 2 (.t 2)) [],oo_ 43 (.load false 1 (.t 42)) [3],oo_ 44 (.bin .and (.t 43) (.d (.int .i64 255))) [4],oo_ 45 (.bin .rem (.t 44) (.d (.int .i64 4))) [5],oo_ 46 (.bin .add
 (.d (.int .i64 1)) (.t 45)) [6],oo_ 47 (.fa 1 (.t 2)) [0,1,2,3,4],on_ (.store 1 (.t 47) (.t 41)) [8,2,0,1,2,3,4],oo_ 48 (.fa 2 (.t 2)) [0,1,2,3,4,5,6,7,8,9],on_ (.store 1 (.t 48) (.t 46)) [10,7,9,0,1,2,3,4,5,6,7,8,9]])
 (.seq (.reg false [oo_ 50 (.bin .eql (.t 14) (.d (.int .i64 3))) [],om_ 49 50 [0]]) (.cond (.t 49) (.reg false [oo_ 51 (.fa 1 (.t 2)) [],oo_ 52 (.load false 1 (.t 51)) [0],oo_ 53 (.bin .and (.t 52) (.d (.int .i64 1)))
 [1],oo_ 54 (.bin .add (.d (.int .i64 1)) (.t 53)) [2],oo_ 55 (.fa 2 (.t 2)) [],oo_ 56 (.load false 1 (.t 55)) [4],oo_ 57 (.bin .and (.t 56) (.d (.int .i64 255))) [5],oo_ 58 (.bin .rem (.t 57) (.d (.int .i64 4))) [6],oo_
 59 (.bin .add (.d (.int .i64 1)) (.t 58)) [7],oo_ 60 (.fa 1 (.t 2)) [0,1,2,3,4,5],on_ (.store 1 (.t 60) (.t 54)) [9,3,0,1,2,3,4,5],oo_ 61 (.fa 2 (.t 2)) [0,1,2,3,4,5,6,7,8,9,10],on_ (.store 1 (.t 61) (.t 59))
 [11,8,10,0,1,2,3,4,5,6,7,8,9,10]]) (.reg false [oo_ 15 (.fa 1 (.t 2)) [],oo_ 16 (.load false 1 (.t 15)) [0],oo_ 17 (.bin .and (.t 16) (.d (.int .i64 7))) [1],oo_ 18 (.bin .add (.d (.int .i64 1)) (.t 17)) [2],oo_ 19 (.fa
 2 (.t 2)) [],oo_ 20 (.load false 1 (.t 19)) [4],oo_ 21 (.bin .and (.t 20) (.d (.int .i64 3))) [5],oo_ 22 (.fa 1 (.t 2)) [0,1,2,3,4,5],on_ (.store 1 (.t 22) (.t 18)) [7,3,0,1,2,3,4,5],oo_ 23 (.fa 2 (.t 2))
 [0,1,2,3,4,5,6,7,8],on_ (.store 1 (.t 23) (.t 21)) [9,6,8,0,1,2,3,4,5,6,7,8]]))))))))) (.seq (.reg true [oo_ 62 (.load true 3 (.t 2)) [],oo_ 63 (.load true 3 (.t 2)) [],oo_ 64 (.load true 3 (.t 3)) [],oo_ 65 (.call 188
 [(.t 63),(.t 64)]) [1,2],on_ (.store 3 (.t 4) (.t 62)) [0,3,0],on_ (.store 3 (.t 5) (.t 65)) [3,4,0,1,2,3,4]]) .ret))))
theorem o_at : fnOf Tryz.prog o_ar = some (o_as, [.cell 4 true 3, .cell 5 true 3], 66, false) := by kernel_rfl

abbrev o_au : FuncId := 143
def o_av : C := (.seq (.reg false [oo_ 1 (.box 68 (.t 0)) [],oo_ 2 (.new 86 [(.int .i64 0),(.int .i64 0),(.int .i64 0)]) []]) (.seq (.reg false [oo_ 3 (.fa 0 (.t 1)) [],oo_ 4 (.load false 1 (.t 3)) [0],oo_ 5 (.fa 1 (.t 1)) [],oo_ 6
 (.load false 1 (.t 5)) [2],oo_ 7 (.fa 2 (.t 1)) [],oo_ 8 (.load false 1 (.t 7)) [4],oo_ 9 (.build [(.int .i64 0),(.int .i64 0),(.int .i64 0)] [(0,1,(.t 4)),(1,1,(.t 6)),(2,1,(.t 8))]) [1,3,5],on_ (.store 3 (.t 2) (.t
 9)) [6,0,1,2,3,4,5,6]]) .ret))
theorem o_aw : fnOf Tryz.prog o_au = some (o_av, [.cell 2 true 3], 10, false) := by kernel_rfl

abbrev o_ax : FuncId := 144
def o_ay : C := (.seq (.reg false [oo_ 3 (.mv (.d (.int .u64 0))) []]) (.seq (.seq (.reg false [om_ 4 0 [],oo_ 5 (.fa 5 (.t 1)) [],oo_ 6 (.load false 1 (.t 5)) [1],oo_ 7 (.len (.t 6)) [2],oo_ 8 (.bin .lss (.t 4) (.t 7)) [0,3]]) (.cond
 (.t 8) (.seq (.reg false [oo_ 9 (.fa 5 (.t 1)) [],oo_ 10 (.load false 1 (.t 9)) [0],om_ 11 0 [],oo_ 12 (.ix 1 (.t 10) (.t 11)) [1,2],oo_ 13 (.load false 1 (.t 12)) [3],oo_ 14 (.bin .rem (.t 13) (.d (.int .u64
 2305843009213693951))) [4],om_ 3 14 [5,0,1,2,3,4,5]]) .ret) .skip)) (.seq (.reg false [om_ 15 0 [],oo_ 16 (.bin .add (.t 15) (.d (.int .i64 1))) [0],oo_ 17 (.conv .u64 (.t 16)) [1],om_ 3 17 [2,0,1,2]]) .ret)))
theorem o_az : fnOf Tryz.prog o_ax = some (o_ay, [.t 3], 18, false) := by kernel_rfl

abbrev o_b0 : FuncId := 145
def o_b1 : C := (.seq (.reg false [oo_ 2 (.mv (.d (.bool false))) []]) (.seq (.reg false [om_ 3 0 [],oo_ 4 (.bin .geq (.t 3) (.d (.int .i64 0))) [0],om_ 5 4 [1],og_ 6 (.mv (.t 0)) 5 true [2],og_ 7 (.bin .leq (.t 6) (.d (.int .i64 64)))
 5 true [3,2],oo_ 8 (.pick (.t 5) (.t 7) (.d (.bool false))) [2,4],om_ 2 8 [5,2,0,1,2,3,4,5]]) .ret))
theorem o_b2 : fnOf Tryz.prog o_b0 = some (o_b1, [.t 2], 9, false) := by kernel_rfl

abbrev o_b3 : FuncId := 146
def o_b4 : C := (.seq (.reg false [oo_ 4 (.mv (.d (.bool false))) []]) (.seq (.reg false [om_ 5 1 [],oo_ 6 (.bin .eql (.t 5) (.d (.int .i64 64))) [0],om_ 7 6 [1],og_ 8 (.mv (.t 0)) 7 false [2],og_ 9 (.mv (.t 1)) 7 false [2],og_ 10
 (.bin .shr (.t 8) (.t 9)) 7 false [3,4,2],og_ 11 (.bin .eql (.t 10) (.d (.int .u64 0))) 7 false [5,2],oo_ 12 (.pick (.t 7) (.d (.bool true)) (.t 11)) [2,6],om_ 4 12 [7,2,0,1,2,3,4,5,6,7]]) .ret))
theorem o_b5 : fnOf Tryz.prog o_b3 = some (o_b4, [.t 4], 13, false) := by kernel_rfl

abbrev o_b6 : FuncId := 147
def o_b7 : C := (.seq (.seq (.reg false [om_ 4 0 [],oo_ 5 (.chk (.t 4)) [0],oo_ 6 (.fa 1 (.t 5)) [1],oo_ 7 (.load false 1 (.t 6)) [2],oo_ 8 (.bin .rem (.t 7) (.d (.int .i64 8))) [3],oo_ 9 (.bin .eql (.t 8) (.d (.int .i64 0))) [4]])
 (.cond (.t 9) (.reg false [om_ 10 0 [],om_ 11 0 [],oo_ 12 (.chk (.t 11)) [1],oo_ 13 (.fa 0 (.t 12)) [2],oo_ 14 (.load false 1 (.t 13)) [3],oo_ 15 (.bsl 5 1 1 [(.int .u8 0)] [(0,1,(.d (.int .u8 0)))]) [],oo_ 16 (.app 5 1
 1 (.t 14) (.t 15)) [4,5],oo_ 17 (.chk (.t 10)) [0,0,1,2,3,4,5,6],oo_ 18 (.fa 0 (.t 17)) [7,0,1,2,3,4,5,6],on_ (.store 1 (.t 18) (.t 16)) [8,6,6,0,1,2,3,4,5,6]]) .skip)) (.seq (.seq (.reg false [om_ 19 1 []]) (.cond (.t
 19) (.reg true [om_ 20 0 [],oo_ 21 (.chk (.t 20)) [0],oo_ 22 (.fa 0 (.t 21)) [1],oo_ 23 (.load false 1 (.t 22)) [2],om_ 24 0 [],oo_ 25 (.chk (.t 24)) [4],oo_ 26 (.fa 1 (.t 25)) [5],oo_ 27 (.load false 1 (.t 26)) [6],oo_
 28 (.bin .quo (.t 27) (.d (.int .i64 8))) [7],oo_ 29 (.ix 1 (.t 23) (.t 28)) [3,8],oo_ 30 (.load false 1 (.t 29)) [9],om_ 31 0 [],oo_ 32 (.chk (.t 31)) [11],oo_ 33 (.fa 1 (.t 32)) [12],oo_ 34 (.load false 1 (.t 33))
 [13],oo_ 35 (.bin .rem (.t 34) (.d (.int .i64 8))) [14],oo_ 36 (.bin .sub (.d (.int .i64 7)) (.t 35)) [15],oo_ 37 (.bin .shl (.d (.int .u8 1)) (.t 36)) [16],oo_ 38 (.bin .or (.t 30) (.t 37)) [10,17],oo_ 39 (.ix 1 (.t
 23) (.t 28)) [3,8,0,1,2,3,4,5,6,7,8,9,10,11,12,13,14,15,16,17,18],on_ (.store 1 (.t 39) (.t 38)) [19,18,0,1,2,3,4,5,6,7,8,9,10,11,12,13,14,15,16,17,18]]) .skip)) (.reg false [om_ 40 0 [],oo_ 41 (.chk (.t 40)) [0],oo_ 42
 (.fa 1 (.t 41)) [1],oo_ 43 (.load false 1 (.t 42)) [2],oo_ 44 (.bin .add (.t 43) (.d (.int .i64 1))) [3],oo_ 45 (.chk (.t 40)) [0,0,1,2,3,4],oo_ 46 (.fa 1 (.t 45)) [5,0,1,2,3,4],on_ (.store 1 (.t 46) (.t 44))
 [6,4,0,1,2,3,4]])))
theorem o_b8 : fnOf Tryz.prog o_b6 = some (o_b7, [], 47, false) := by kernel_rfl

abbrev o_b9 : FuncId := 148
def o_ba : C := (.seq (.reg false [oo_ 4 (.mv (.d (.int .u64 0))) [],oo_ 5 (.mv (.d (.int .i64 0))) [0]]) (.seq (.seq (.reg false [om_ 9 1 [],oo_ 10 (.bin .lss (.t 9) (.d (.int .i64 0))) [0],om_ 11 10 [1],og_ 12 (.mv (.t 1)) 11 false
 [2],og_ 13 (.mv (.t 0)) 11 false [2],og_ 14 (.chk (.t 13)) 11 false [4,2],og_ 15 (.fa 1 (.t 14)) 11 false [5,2],og_ 16 (.load false 1 (.t 15)) 11 false [6,2],og_ 17 (.bin .geq (.t 12) (.t 16)) 11 false [3,7,2],oo_ 18
 (.pick (.t 11) (.d (.bool true)) (.t 17)) [2,8]]) (.cond (.t 18) (.seq (.reg false [oo_ 4 (.mv (.d (.int .u64 0))) [],oo_ 5 (.mv (.d (.int .i64 1))) [0,0]]) .ret) .skip)) (.seq (.reg false [om_ 20 0 [],om_ 21 1 [],oo_
 22 (.call 189 [(.t 20),(.t 21)]) [0,1],om_ 19 22 [2],oo_ 23 (.ext (.t 19) 0) [3],oo_ 24 (.ext (.t 19) 1) [3],om_ 6 23 [4,2,0,1,2,3,4],om_ 7 24 [5,6,0,1,2,3,4,5,6]]) (.seq (.reg false [om_ 25 0 [],oo_ 26 (.chk (.t 25))
 [0],oo_ 27 (.fa 0 (.t 26)) [1],oo_ 28 (.load false 1 (.t 27)) [2],om_ 29 6 [],oo_ 30 (.ix 1 (.t 28) (.t 29)) [3,4],oo_ 31 (.load false 1 (.t 30)) [5],om_ 32 7 [],oo_ 33 (.bin .shr (.t 31) (.t 32)) [6,7],om_ 8 33
 [8,0,1,2,3,4,5,6,7,8]]) (.seq (.seq (.reg false [om_ 34 7 [],om_ 35 0 [],oo_ 36 (.chk (.t 35)) [1],oo_ 37 (.fa 2 (.t 36)) [2],oo_ 38 (.load false 1 (.t 37)) [3],oo_ 39 (.bin .add (.t 34) (.t 38)) [0,4],oo_ 40 (.bin .gtr
 (.t 39) (.d (.int .i64 64))) [5]]) (.cond (.t 40) (.reg false [om_ 41 8 [],om_ 42 0 [],oo_ 43 (.chk (.t 42)) [1],oo_ 44 (.fa 0 (.t 43)) [2],oo_ 45 (.load false 1 (.t 44)) [3],om_ 46 6 [],oo_ 47 (.bin .add (.t 46) (.d
 (.int .i64 1))) [5],oo_ 48 (.ix 1 (.t 45) (.t 47)) [4,6],oo_ 49 (.load false 1 (.t 48)) [7],om_ 50 7 [],oo_ 51 (.bin .sub (.d (.int .i64 64)) (.t 50)) [9],oo_ 52 (.bin .shl (.t 49) (.t 51)) [8,10],oo_ 53 (.bin .or (.t
 41) (.t 52)) [0,11],om_ 8 53 [12,0,1,2,3,4,5,6,7,8,9,10,11,12]]) .skip)) (.seq (.reg false [om_ 54 8 [],om_ 55 0 [],oo_ 56 (.call 190 [(.t 55)]) [1],oo_ 57 (.bin .and (.t 54) (.t 56)) [0,2],om_ 4 57 [3,2,0,1,2,3],oo_ 5
 (.mv (.d (.int .i64 0))) [4,0,1,2,3,4]]) .ret))))))
theorem o_bb : fnOf Tryz.prog o_b9 = some (o_ba, [.t 4, .t 5], 58, false) := by kernel_rfl

abbrev o_bc : FuncId := 149
def o_bd : C := (.seq (.reg false [oo_ 1 (.box 86 (.t 0)) [],oo_ 2 (.mv (.d (.int .i64 0))) []]) (.seq (.seq (.reg false [oo_ 3 (.fa 0 (.t 1)) [],oo_ 4 (.load false 1 (.t 3)) [0],oo_ 5 (.bin .eql (.t 4) (.d (.int .i64 4))) [1]]) (.cond
 (.t 5) (.seq (.reg false [oo_ 6 (.load true 3 (.t 1)) [],oo_ 7 (.call 182 [(.t 6)]) [0],oo_ 8 (.call 191 [(.t 7)]) [1,1],om_ 2 8 [2,2,0,1,2]]) .ret) .skip)) (.seq (.reg false [oo_ 9 (.load true 3 (.t 1)) [],oo_ 10
 (.call 186 [(.t 9)]) [0],oo_ 11 (.call 66 [(.t 10)]) [1,1],om_ 2 11 [2,2,0,1,2]]) .ret)))
theorem o_be : fnOf Tryz.prog o_bc = some (o_bd, [.t 2], 12, false) := by kernel_rfl

abbrev o_bf : FuncId := 150
def o_bg : C := (.seq (.reg false [oo_ 2 (.mv (.d (.int .u64 0))) []]) (.seq (.reg true [om_ 4 0 [],oo_ 5 (.chk (.t 4)) [0],oo_ 6 (.fa 0 (.t 5)) [1],oo_ 7 (.load false 1 (.t 6)) [2],om_ 8 0 [],oo_ 9 (.chk (.t 8)) [4],oo_ 10 (.fa 1 (.t
 9)) [5],oo_ 11 (.load false 1 (.t 10)) [6],oo_ 12 (.bin .quo (.t 11) (.d (.int .i64 8))) [7],oo_ 13 (.ix 1 (.t 7) (.t 12)) [3,8],oo_ 14 (.load false 1 (.t 13)) [9],om_ 15 0 [],oo_ 16 (.chk (.t 15)) [11],oo_ 17 (.fa 1
 (.t 16)) [12],oo_ 18 (.load false 1 (.t 17)) [13],oo_ 19 (.bin .rem (.t 18) (.d (.int .i64 8))) [14],oo_ 20 (.bin .sub (.d (.int .i64 7)) (.t 19)) [15],oo_ 21 (.bin .shr (.t 14) (.t 20)) [10,16],oo_ 22 (.bin .and (.t
 21) (.d (.int .u8 1))) [17],om_ 3 22 [18,0,1,2,3,4,5,6,7,8,9,10,11,12,13,14,15,16,17,18]]) (.seq (.reg false [om_ 23 0 [],oo_ 24 (.chk (.t 23)) [0],oo_ 25 (.fa 1 (.t 24)) [1],oo_ 26 (.load false 1 (.t 25)) [2],oo_ 27
 (.bin .add (.t 26) (.d (.int .i64 1))) [3],oo_ 28 (.chk (.t 23)) [0,0,1,2,3,4],oo_ 29 (.fa 1 (.t 28)) [5,0,1,2,3,4],on_ (.store 1 (.t 29) (.t 27)) [6,4,0,1,2,3,4]]) (.seq (.reg false [om_ 30 3 [],oo_ 31 (.conv .u64 (.t
 30)) [0],om_ 2 31 [1,0,1]]) .ret))))
theorem o_bh : fnOf Tryz.prog o_bf = some (o_bg, [.t 2], 32, false) := by kernel_rfl

abbrev o_bi : FuncId := 151
def o_bj : C := (.seq (.reg false [oo_ 2 (.box 86 (.t 0)) [],oo_ 4 (.new 211 [(.int .i64 0),(.int .i64 0),(.bool false)]) [],oo_ 5 (.mv (.d (.int .i64 0))) []]) (.seq (.seq (.reg false [oo_ 16 (.load true 3 (.t 2)) [],oo_ 17 (.call 149
 [(.t 16)]) [0],om_ 6 17 [1,1,0,1]]) (.seq (.reg false [om_ 18 6 [],oo_ 19 (.bin .neq (.t 18) (.d (.int .i64 0))) [0]]) (.cond (.t 19) (.seq (.reg false [oo_ 20 (.build [(.int .i64 0),(.int .i64 0),(.bool false)] [])
 [],om_ 21 6 [],on_ (.store 3 (.t 4) (.t 20)) [0,0],om_ 5 21 [1,2,0,1,2]]) .ret) .skip))) (.seq (.seq (.reg true [om_ 22 1 [],oo_ 23 (.call 41 [(.t 22)]) [0],oo_ 24 (.load true 3 (.t 2)) [],oo_ 25 (.call 175 [(.t 24)])
 [2,1],oo_ 26 (.bin .lss (.t 23) (.t 25)) [1,3]]) (.cond (.t 26) (.seq (.reg false [oo_ 27 (.build [(.int .i64 0),(.int .i64 0),(.bool false)] []) [],on_ (.store 3 (.t 4) (.t 27)) [0,0],oo_ 5 (.mv (.d (.int .i64 5)))
 [1,0,1]]) .ret) .skip)) (.seq (.reg false [oo_ 29 (.load true 3 (.t 2)) [],oo_ 30 (.call 192 [(.t 29)]) [0],om_ 28 30 [1],oo_ 31 (.ext (.t 28) 0) [2],oo_ 32 (.ext (.t 28) 1) [2],om_ 7 31 [3,1,0,1,2,3],om_ 8 32
 [4,5,0,1,2,3,4,5]]) (.seq (.reg false [om_ 34 1 [],om_ 35 7 [],oo_ 36 (.call 91 [(.t 34),(.t 35)]) [0,1],om_ 33 36 [2],oo_ 37 (.ext (.t 33) 0) [3],oo_ 38 (.ext (.t 33) 1) [3],om_ 9 37 [4,2,0,1,2,3,4],om_ 10 38
 [5,6,0,1,2,3,4,5,6]]) (.seq (.reg false [om_ 40 1 [],om_ 41 8 [],oo_ 42 (.call 91 [(.t 40),(.t 41)]) [0,1],om_ 39 42 [2],oo_ 43 (.ext (.t 39) 0) [3],oo_ 44 (.ext (.t 39) 1) [3],om_ 11 43 [4,2,0,1,2,3,4],om_ 12 44
 [5,6,0,1,2,3,4,5,6]]) (.seq (.reg false [om_ 46 1 [],oo_ 47 (.call 40 [(.t 46)]) [0],om_ 45 47 [1],oo_ 48 (.ext (.t 45) 0) [2],oo_ 49 (.ext (.t 45) 1) [2],om_ 13 48 [3,1,0,1,2,3],om_ 14 49 [4,5,0,1,2,3,4,5]]) (.seq
 (.reg false [om_ 50 9 [],oo_ 51 (.conv .i64 (.t 50)) [0],om_ 52 11 [],oo_ 53 (.conv .i64 (.t 52)) [2],om_ 54 13 [],oo_ 55 (.build [(.int .i64 0),(.int .i64 0),(.bool false)] [(0,1,(.t 51)),(1,1,(.t 53)),(2,1,(.t 54))])
 [1,3,4],oo_ 15 (.new 211 [(.int .i64 0),(.int .i64 0),(.bool false)]) [],on_ (.store 3 (.t 15) (.t 55)) [6,5,0,1,2,3,4,5,6]]) (.seq (.seq (.reg false [oo_ 56 (.load true 3 (.t 2)) [],oo_ 57 (.load true 3 (.t 15)) [],oo_
 58 (.call 193 [(.t 56),(.t 57)]) [0,1],oo_ 59 (.un .not (.t 58)) [2]]) (.cond (.t 59) (.seq (.reg false [oo_ 60 (.build [(.int .i64 0),(.int .i64 0),(.bool false)] []) [],on_ (.store 3 (.t 4) (.t 60)) [0,0],oo_ 5 (.mv
 (.d (.int .i64 4))) [1,0,1]]) .ret) .skip)) (.seq (.reg false [oo_ 61 (.load true 3 (.t 15)) [],on_ (.store 3 (.t 4) (.t 61)) [0,0],oo_ 5 (.mv (.d (.int .i64 0))) [1,0,1]]) .ret))))))))))
theorem o_bk : fnOf Tryz.prog o_bi = some (o_bj, [.cell 4 true 3, .t 5], 62, false) := by kernel_rfl

abbrev o_bl : FuncId := 152
def o_bm : C := (.seq (.reg false [oo_ 5 (.box 211 (.t 2)) [],oo_ 6 (.mv (.d (.int .i64 0))) []]) (.seq (.seq (.reg false [om_ 14 0 [],oo_ 15 (.chk (.t 14)) [0],oo_ 16 (.fa 0 (.t 15)) [1],oo_ 17 (.load false 1 (.t 16)) [2],om_ 18 1
 [],oo_ 19 (.call 148 [(.t 17),(.t 18)]) [3,4],om_ 13 19 [5],oo_ 20 (.ext (.t 13) 0) [6],oo_ 21 (.ext (.t 13) 1) [6],om_ 7 20 [7,5,0,1,2,3,4,5,6,7],om_ 8 21 [8,9,0,1,2,3,4,5,6,7,8,9]]) (.seq (.reg false [om_ 22 8 [],oo_
 23 (.bin .neq (.t 22) (.d (.int .i64 0))) [0]]) (.cond (.t 23) (.seq (.reg false [om_ 24 8 [],om_ 6 24 [0,0]]) .ret) .skip))) (.seq (.reg false [oo_ 9 (.new 78 [.nilsl,(.int .i64 0)]) []]) (.seq (.seq (.reg true [om_ 25
 0 [],oo_ 26 (.chk (.t 25)) [0],oo_ 27 (.fa 1 (.t 26)) [1],oo_ 28 (.load true 3 (.t 27)) [2],oo_ 29 (.load true 3 (.t 5)) [],oo_ 30 (.call 194 [(.t 28),(.t 9),(.t 29)]) [3,4],om_ 10 30 [5,5,0,1,2,3,4,5]]) (.seq (.reg
 false [om_ 31 10 [],oo_ 32 (.bin .neq (.t 31) (.d (.int .i64 0))) [0]]) (.cond (.t 32) (.seq (.reg false [om_ 33 10 [],om_ 6 33 [0,0]]) .ret) .skip))) (.seq (.reg true [oo_ 35 (.call 35 [(.t 9)]) [],oo_ 36 (.call 34
 [(.t 35)]) [0,0],om_ 37 0 [],oo_ 38 (.chk (.t 37)) [2],oo_ 39 (.fa 0 (.t 38)) [3],oo_ 40 (.load false 1 (.t 39)) [4],oo_ 41 (.call 180 [(.t 40)]) [5,1],oo_ 42 (.call 91 [(.t 36),(.t 41)]) [1,6,6],om_ 34 42 [7],oo_ 43
 (.ext (.t 34) 0) [8],oo_ 44 (.ext (.t 34) 1) [8],om_ 11 43 [9,7,0,1,2,3,4,5,6,7,8,9],om_ 12 44 [10,11,0,1,2,3,4,5,6,7,8,9,10,11]]) (.seq (.reg false [om_ 45 0 [],oo_ 46 (.chk (.t 45)) [0],oo_ 47 (.fa 0 (.t 46)) [1],oo_
 48 (.load false 1 (.t 47)) [2],om_ 49 1 [],om_ 50 11 [],oo_ 51 (.call 195 [(.t 48),(.t 49),(.t 50)]) [3,4,5],om_ 6 51 [6,6,0,1,2,3,4,5,6]]) .ret))))))
theorem o_bn : fnOf Tryz.prog o_bl = some (o_bm, [.t 6], 52, false) := by kernel_rfl

abbrev o_bo : FuncId := 153
def o_bp : C := (.seq (.reg false [oo_ 4 (.mv (.d (.bool false))) []]) (.seq (.reg true [om_ 5 0 [],oo_ 6 (.chk (.t 5)) [0],oo_ 7 (.fa 1 (.t 6)) [1],oo_ 8 (.load false 1 (.t 7)) [2],om_ 9 1 [],oo_ 10 (.chk (.t 9)) [4],oo_ 11 (.fa 1 (.t
 10)) [5],oo_ 12 (.load false 1 (.t 11)) [6],oo_ 13 (.bin .eql (.t 8) (.t 12)) [3,7],om_ 14 13 [8],og_ 15 (.mv (.t 0)) 14 true [9],og_ 16 (.chk (.t 15)) 14 true [10,9],og_ 17 (.fa 2 (.t 16)) 14 true [11,9],og_ 18 (.load
 false 1 (.t 17)) 14 true [12,9],og_ 19 (.mv (.t 1)) 14 true [9],og_ 20 (.chk (.t 19)) 14 true [14,9],og_ 21 (.fa 2 (.t 20)) 14 true [15,9],og_ 22 (.load false 1 (.t 21)) 14 true [16,9],og_ 23 (.bin .eql (.t 18) (.t 22))
 14 true [13,17,9],oo_ 24 (.pick (.t 14) (.t 23) (.d (.bool false))) [9,18],om_ 25 24 [19,9],og_ 26 (.mv (.t 0)) 25 true [20],og_ 27 (.chk (.t 26)) 25 true [21,20],og_ 28 (.fa 0 (.t 27)) 25 true [22,20],og_ 29 (.load
 false 1 (.t 28)) 25 true [23,20],og_ 30 (.mv (.t 1)) 25 true [20],og_ 31 (.chk (.t 30)) 25 true [25,20],og_ 32 (.fa 0 (.t 31)) 25 true [26,20],og_ 33 (.load false 1 (.t 32)) 25 true [27,20],og_ 34 (.call 196 [(.t
 29),(.t 33)]) 25 true [24,28,20,20],oo_ 35 (.pick (.t 25) (.t 34) (.d (.bool false))) [20,29],om_ 4 35 [30,29,0,1,2,3,4,5,6,7,8,9,10,11,12,13,14,15,16,17,18,19,20,21,22,23,24,25,26,27,28,29,30]]) .ret))
theorem o_bq : fnOf Tryz.prog o_bo = some (o_bp, [.t 4], 36, false) := by kernel_rfl

abbrev o_br : FuncId := 154
def o_bs : C := (.seq (.reg false [oo_ 4 (.mv (.d (.bool false))) []]) (.seq (.seq (.reg false [om_ 6 0 [],oo_ 7 (.len (.t 6)) [0],om_ 8 1 [],oo_ 9 (.len (.t 8)) [2],oo_ 10 (.bin .neq (.t 7) (.t 9)) [1,3]]) (.cond (.t 10) (.seq (.reg
 false [oo_ 4 (.mv (.d (.bool false))) []]) .ret) .skip)) (.seq (.seq (.reg false [om_ 11 0 [],oo_ 12 (.len (.t 11)) [0],oo_ 13 (.mv (.d (.int .i64 0))) []]) (.block 0 (.loop (.seq (.reg false [oo_ 14 (.bin .lss (.t 13)
 (.t 12)) []]) (.seq (.cond (.t 14) .skip (.exit 0)) (.seq (.block 1 (.seq (.reg false [om_ 15 13 [],om_ 5 15 [0,0]]) (.seq (.reg true [om_ 16 0 [],om_ 17 5 [],oo_ 18 (.ix 2 (.t 16) (.t 17)) [0,1],oo_ 19 (.load true 2
 (.t 18)) [2],om_ 20 1 [],om_ 21 5 [],oo_ 22 (.ix 2 (.t 20) (.t 21)) [4,5],oo_ 23 (.load true 2 (.t 22)) [6],oo_ 24 (.aeq true [0,0] (.t 19) (.t 23)) [3,7]]) (.cond (.t 24) (.seq (.reg false [oo_ 4 (.mv (.d (.bool
 false))) []]) .ret) .skip)))) (.reg false [oo_ 25 (.bin .add (.t 13) (.d (.int .i64 1))) [],om_ 13 25 [0]]))))))) (.seq (.reg false [oo_ 4 (.mv (.d (.bool true))) []]) .ret))))
theorem o_bt : fnOf Tryz.prog o_br = some (o_bs, [.t 4], 26, false) := by kernel_rfl

abbrev o_bu : FuncId := 155
def o_bv : C := (.seq (.reg false [oo_ 2 (.mv (.d .nilsl)) []]) (.seq (.reg false [oo_ 3 (.mv (.d .nilsl)) []]) (.seq (.seq (.reg false [om_ 6 0 [],oo_ 7 (.chk (.t 6)) [0],oo_ 8 (.fa 5 (.t 7)) [1],oo_ 9 (.load false 1 (.t 8)) [2],oo_
 10 (.len (.t 9)) [3],oo_ 11 (.mv (.d (.int .i64 0))) []]) (.block 0 (.loop (.seq (.reg false [oo_ 12 (.bin .lss (.t 11) (.t 10)) []]) (.seq (.cond (.t 12) .skip (.exit 0)) (.seq (.block 1 (.seq (.reg false [oo_ 13 (.ix
 3 (.t 9) (.t 11)) [],oo_ 14 (.load true 3 (.t 13)) [0],oo_ 5 (.new 150 [(.int .u64 0),(.int .u64 0),.nilp]) [],on_ (.store 3 (.t 5) (.t 14)) [2,1,0,1,2]]) (.reg false [om_ 15 3 [],oo_ 16 (.fa 0 (.t 5)) [],oo_ 17 (.load
 true 2 (.t 16)) [1],oo_ 18 (.bsl 131 2 1 [(.int .u64 0),(.int .u64 0)] [(0,2,(.t 17))]) [2],oo_ 19 (.app 131 2 16 (.t 15) (.t 18)) [0,3],om_ 3 19 [4,4,0,1,2,3,4]]))) (.reg false [oo_ 20 (.bin .add (.t 11) (.d (.int .i64
 1))) [],om_ 11 20 [0]]))))))) (.seq (.reg false [om_ 21 3 [],om_ 2 21 [0,0]]) .ret))))
theorem o_bw : fnOf Tryz.prog o_bu = some (o_bv, [.t 2], 22, false) := by kernel_rfl

abbrev o_bx : FuncId := 156
def o_by : C := (.seq (.reg false [oo_ 1 (.box 25 (.t 0)) [],oo_ 2 (.mv (.d (.int .i64 0))) []]) (.seq (.reg false [oo_ 4 (.fa 0 (.t 1)) [],oo_ 5 (.load false 1 (.t 4)) [0],oo_ 6 (.len (.t 5)) [1],om_ 3 6 [2,0,1,2]]) (.seq (.seq (.reg
 false [om_ 7 3 [],oo_ 8 (.bin .eql (.t 7) (.d (.int .i64 0))) [0]]) (.cond (.t 8) (.seq (.reg false [oo_ 2 (.mv (.d (.int .i64 0))) []]) .ret) .skip)) (.seq (.reg false [om_ 9 3 [],oo_ 10 (.bin .sub (.t 9) (.d (.int
 .i64 1))) [0],oo_ 11 (.bin .mul (.d (.int .i64 64)) (.t 10)) [1],oo_ 12 (.fa 0 (.t 1)) [],oo_ 13 (.load false 1 (.t 12)) [3],om_ 14 3 [],oo_ 15 (.bin .sub (.t 14) (.d (.int .i64 1))) [5],oo_ 16 (.ix 1 (.t 13) (.t 15))
 [4,6],oo_ 17 (.load false 1 (.t 16)) [7],oo_ 18 (.call 171 [(.t 17)]) [8],oo_ 19 (.bin .add (.t 11) (.t 18)) [2,9],om_ 2 19 [10,9,0,1,2,3,4,5,6,7,8,9,10]]) .ret))))
theorem o_bz : fnOf Tryz.prog o_bx = some (o_by, [.t 2], 20, false) := by kernel_rfl

abbrev o_c0 : FuncId := 157
def o_c1 : C := (.seq (.reg false [oo_ 2 (.mv (.d .nilsl)) []]) (.seq (.seq (.reg false [om_ 3 0 [],oo_ 4 (.snl false (.t 3)) [0]]) (.cond (.t 4) (.seq (.reg false [oo_ 2 (.mv (.d .nilsl)) []]) .ret) .skip)) (.seq (.reg false [oo_ 5
 (.bsl0) [],om_ 6 0 [],oo_ 7 (.app 129 1 8 (.t 5) (.t 6)) [0,1],om_ 2 7 [2,2,0,1,2]]) .ret)))
theorem o_c2 : fnOf Tryz.prog o_c0 = some (o_c1, [.t 2], 8, false) := by kernel_rfl

abbrev o_c3 : FuncId := 158
def o_c4 : C := (.seq (.reg false [oo_ 6 (.mv (.d (.int .u64 0))) [],oo_ 7 (.mv (.d (.int .u64 0))) [0]]) (.seq (.seq (.reg false [om_ 19 2 [],oo_ 20 (.bin .eql (.t 19) (.d (.int .u64 0))) [0]]) (.cond (.t 20) (.reg false [oo_ 21
 (.load false 1 .bad) [],on_ (.bad) [0]]) .skip)) (.seq (.seq (.reg false [om_ 22 2 [],om_ 23 0 [],oo_ 24 (.bin .leq (.t 22) (.t 23)) [0,1]]) (.cond (.t 24) (.reg false [oo_ 25 (.load false 1 .bad) [],on_ (.bad) [0]])
 .skip)) (.seq (.seq (.reg false [om_ 26 0 [],oo_ 27 (.bin .eql (.t 26) (.d (.int .u64 0))) [0]]) (.cond (.t 27) (.seq (.reg true [om_ 28 1 [],om_ 29 2 [],oo_ 30 (.bin .quo (.t 28) (.t 29)) [0,1],om_ 31 1 [],om_ 32 2
 [],oo_ 33 (.bin .rem (.t 31) (.t 32)) [3,4],om_ 6 30 [2,0,1,2],om_ 7 33 [5,6,0,1,2,3,4,5,6]]) .ret) .skip)) (.seq (.reg false [om_ 34 2 [],oo_ 35 (.call 197 [(.t 34)]) [0],oo_ 36 (.conv .u64 (.t 35)) [1],om_ 8 36
 [2,1,0,1,2]]) (.seq (.reg false [om_ 37 2 [],om_ 38 8 [],oo_ 39 (.bin .shl (.t 37) (.t 38)) [0,1],om_ 2 39 [2,0,1,2]]) (.seq (.reg false [om_ 40 2 [],oo_ 41 (.bin .shr (.t 40) (.d (.int .u64 32))) [0],om_ 9 41 [1,0,1]])
 (.seq (.reg false [om_ 42 2 [],oo_ 43 (.bin .and (.t 42) (.d (.int .u64 4294967295))) [0],om_ 10 43 [1,0,1]]) (.seq (.reg false [om_ 44 0 [],om_ 45 8 [],oo_ 46 (.bin .shl (.t 44) (.t 45)) [0,1],om_ 47 1 [],om_ 48 8
 [],oo_ 49 (.bin .sub (.d (.int .u64 64)) (.t 48)) [4],oo_ 50 (.bin .shr (.t 47) (.t 49)) [3,5],oo_ 51 (.bin .or (.t 46) (.t 50)) [2,6],om_ 11 51 [7,0,1,2,3,4,5,6,7]]) (.seq (.reg false [om_ 52 1 [],om_ 53 8 [],oo_ 54
 (.bin .shl (.t 52) (.t 53)) [0,1],om_ 12 54 [2,0,1,2]]) (.seq (.reg false [om_ 55 12 [],oo_ 56 (.bin .shr (.t 55) (.d (.int .u64 32))) [0],om_ 13 56 [1,0,1]]) (.seq (.reg false [om_ 57 12 [],oo_ 58 (.bin .and (.t 57)
 (.d (.int .u64 4294967295))) [0],om_ 14 58 [1,0,1]]) (.seq (.reg false [om_ 59 11 [],om_ 60 9 [],oo_ 61 (.bin .quo (.t 59) (.t 60)) [0,1],om_ 15 61 [2,0,1,2]]) (.seq (.reg false [om_ 62 11 [],om_ 63 15 [],om_ 64 9
 [],oo_ 65 (.bin .mul (.t 63) (.t 64)) [1,2],oo_ 66 (.bin .sub (.t 62) (.t 65)) [0,3],om_ 16 66 [4,0,1,2,3,4]]) (.seq (.block 0 (.loop (.seq (.seq (.reg false [om_ 67 15 [],oo_ 68 (.bin .geq (.t 67) (.d (.int .u64
 4294967296))) [0],om_ 69 68 [1],og_ 70 (.mv (.t 15)) 69 false [2],og_ 71 (.mv (.t 10)) 69 false [2],og_ 72 (.bin .mul (.t 70) (.t 71)) 69 false [3,4,2],og_ 73 (.mv (.t 16)) 69 false [2],og_ 74 (.bin .mul (.d (.int .u64
 4294967296)) (.t 73)) 69 false [6,2],og_ 75 (.mv (.t 13)) 69 false [2],og_ 76 (.bin .add (.t 74) (.t 75)) 69 false [7,8,2],og_ 77 (.bin .gtr (.t 72) (.t 76)) 69 false [5,9,2],oo_ 78 (.pick (.t 69) (.d (.bool true)) (.t
 77)) [2,10]]) (.cond (.t 78) .skip (.exit 0))) (.block 1 (.seq (.reg false [om_ 79 15 [],oo_ 80 (.bin .sub (.t 79) (.d (.int .u64 1))) [0],om_ 15 80 [1,0,1]]) (.seq (.reg false [om_ 81 16 [],om_ 82 9 [],oo_ 83 (.bin
 .add (.t 81) (.t 82)) [0,1],om_ 16 83 [2,0,1,2]]) (.seq (.reg false [om_ 84 16 [],oo_ 85 (.bin .geq (.t 84) (.d (.int .u64 4294967296))) [0]]) (.cond (.t 85) (.exit 0) .skip)))))))) (.seq (.reg false [om_ 86 11 [],oo_
 87 (.bin .mul (.t 86) (.d (.int .u64 4294967296))) [0],om_ 88 13 [],oo_ 89 (.bin .add (.t 87) (.t 88)) [1,2],om_ 90 15 [],om_ 91 2 [],oo_ 92 (.bin .mul (.t 90) (.t 91)) [4,5],oo_ 93 (.bin .sub (.t 89) (.t 92)) [3,6],om_
 17 93 [7,0,1,2,3,4,5,6,7]]) (.seq (.reg false [om_ 94 17 [],om_ 95 9 [],oo_ 96 (.bin .quo (.t 94) (.t 95)) [0,1],om_ 18 96 [2,0,1,2]]) (.seq (.reg false [om_ 97 17 [],om_ 98 18 [],om_ 99 9 [],oo_ 100 (.bin .mul (.t 98)
 (.t 99)) [1,2],oo_ 101 (.bin .sub (.t 97) (.t 100)) [0,3],om_ 16 101 [4,0,1,2,3,4]]) (.seq (.block 2 (.loop (.seq (.seq (.reg false [om_ 102 18 [],oo_ 103 (.bin .geq (.t 102) (.d (.int .u64 4294967296))) [0],om_ 104 103
 [1],og_ 105 (.mv (.t 18)) 104 false [2],og_ 106 (.mv (.t 10)) 104 false [2],og_ 107 (.bin .mul (.t 105) (.t 106)) 104 false [3,4,2],og_ 108 (.mv (.t 16)) 104 false [2],og_ 109 (.bin .mul (.d (.int .u64 4294967296)) (.t
 108)) 104 false [6,2],og_ 110 (.mv (.t 14)) 104 false [2],og_ 111 (.bin .add (.t 109) (.t 110)) 104 false [7,8,2],og_ 112 (.bin .gtr (.t 107) (.t 111)) 104 false [5,9,2],oo_ 113 (.pick (.t 104) (.d (.bool true)) (.t
 112)) [2,10]]) (.cond (.t 113) .skip (.exit 2))) (.block 3 (.seq (.reg false [om_ 114 18 [],oo_ 115 (.bin .sub (.t 114) (.d (.int .u64 1))) [0],om_ 18 115 [1,0,1]]) (.seq (.reg false [om_ 116 16 [],om_ 117 9 [],oo_ 118
 (.bin .add (.t 116) (.t 117)) [0,1],om_ 16 118 [2,0,1,2]]) (.seq (.reg false [om_ 119 16 [],oo_ 120 (.bin .geq (.t 119) (.d (.int .u64 4294967296))) [0]]) (.cond (.t 120) (.exit 2) .skip)))))))) (.seq (.reg false [om_
 121 15 [],oo_ 122 (.bin .mul (.t 121) (.d (.int .u64 4294967296))) [0],om_ 123 18 [],oo_ 124 (.bin .add (.t 122) (.t 123)) [1,2],om_ 125 17 [],oo_ 126 (.bin .mul (.t 125) (.d (.int .u64 4294967296))) [4],om_ 127 14
 [],oo_ 128 (.bin .add (.t 126) (.t 127)) [5,6],om_ 129 18 [],om_ 130 2 [],oo_ 131 (.bin .mul (.t 129) (.t 130)) [8,9],oo_ 132 (.bin .sub (.t 128) (.t 131)) [7,10],om_ 133 8 [],oo_ 134 (.bin .shr (.t 132) (.t 133))
 [11,12],om_ 6 124 [3,0,1,2,3],om_ 7 134 [13,14,0,1,2,3,4,5,6,7,8,9,10,11,12,13,14]]) .ret))))))))))))))))))))
theorem o_c5 : fnOf Tryz.prog o_c3 = some (o_c4, [.t 6, .t 7], 135, false) := by kernel_rfl

abbrev o_c6 : FuncId := 159
def o_c7 : C := (.seq (.reg false [⟨some 4,.mv (.d (.str ⟨#[]⟩)),none,[]⟩]) (.seq (.seq (.reg false [om_ 9 1 [],oo_ 10 (.bin .eql (.t 9) (.d (.int .i64 10))) [0]]) (.cond (.t 10) (.seq (.seq (.reg false [om_ 11 0 [],oo_ 12 (.bin .lss
 (.t 11) (.d (.int .u64 100))) [0]]) (.cond (.t 12) (.seq (.reg false [om_ 13 0 [],oo_ 14 (.conv .i64 (.t 13)) [0],oo_ 15 (.call 198 [(.t 14)]) [1],om_ 4 15 [2,2,0,1,2]]) .ret) .skip)) (.seq (.reg false [oo_ 5 (.new 272
 [(.int .u8 0),(.int .u8 0),(.int .u8 0),(.int .u8 0),(.int .u8 0),(.int .u8 0),(.int .u8 0),(.int .u8 0),(.int .u8 0),(.int .u8 0),(.int .u8 0),(.int .u8 0),(.int .u8 0),(.int .u8 0),(.int .u8 0),(.int .u8 0),(.int .u8
 0),(.int .u8 0),(.int .u8 0),(.int .u8 0),(.int .u8 0),(.int .u8 0),(.int .u8 0),(.int .u8 0)]) []]) (.seq (.reg false [om_ 16 0 [],oo_ 17 (.call 199 [(.t 16)]) [0],om_ 6 17 [1,1,0,1]]) (.seq (.reg false [om_ 18 6
 [],oo_ 19 (.sla 24 1 (.t 5) none (some (.t 18))) [0],om_ 20 0 [],oo_ 21 (.call 200 [(.t 19),(.t 20)]) [1,2]]) (.seq (.reg false [om_ 22 6 [],oo_ 23 (.sla 24 1 (.t 5) none (some (.t 22))) [0],oo_ 24 (.bstr (.t 23))
 [1],om_ 4 24 [2,0,1,2]]) .ret))))) .skip)) (.seq (.reg false [om_ 26 0 [],om_ 27 1 [],oo_ 28 (.call 201 [(.d .nilsl),(.t 26),(.t 27),(.d (.bool false)),(.d (.bool false))]) [0,1],om_ 25 28 [2],oo_ 29 (.ext (.t 25) 0)
 [3],oo_ 30 (.ext (.t 25) 1) [3],om_ 7 29 [4,2,0,1,2,3,4],om_ 8 30 [5,6,0,1,2,3,4,5,6]]) (.seq (.reg false [om_ 31 8 [],om_ 4 31 [0,0]]) .ret))))
theorem o_c8 : fnOf Tryz.prog o_c6 = some (o_c7, [.t 4], 32, false) := by kernel_rfl

abbrev o_c9 : FuncId := 171
def o_ca : C := (.seq (.reg false [oo_ 2 (.mv (.d (.int .i64 0))) []]) (.seq (.seq (.reg false [om_ 3 0 [],oo_ 4 (.bin .geq (.t 3) (.d (.int .u64 4294967296))) [0]]) (.cond (.t 4) (.seq (.reg false [om_ 5 0 [],oo_ 6 (.bin .shr (.t 5)
 (.d (.int .u64 32))) [0],om_ 0 6 [1,0,1]]) (.reg false [oo_ 2 (.mv (.d (.int .i64 32))) []])) .skip)) (.seq (.seq (.reg false [om_ 7 0 [],oo_ 8 (.bin .geq (.t 7) (.d (.int .u64 65536))) [0]]) (.cond (.t 8) (.seq (.reg
 false [om_ 9 0 [],oo_ 10 (.bin .shr (.t 9) (.d (.int .u64 16))) [0],om_ 0 10 [1,0,1]]) (.reg false [om_ 11 2 [],oo_ 12 (.bin .add (.t 11) (.d (.int .i64 16))) [0],om_ 2 12 [1,0,1]])) .skip)) (.seq (.seq (.reg false [om_
 13 0 [],oo_ 14 (.bin .geq (.t 13) (.d (.int .u64 256))) [0]]) (.cond (.t 14) (.seq (.reg false [om_ 15 0 [],oo_ 16 (.bin .shr (.t 15) (.d (.int .u64 8))) [0],om_ 0 16 [1,0,1]]) (.reg false [om_ 17 2 [],oo_ 18 (.bin .add
 (.t 17) (.d (.int .i64 8))) [0],om_ 2 18 [1,0,1]])) .skip)) (.seq (.reg false [om_ 19 2 [],om_ 20 0 [],oo_ 21 (.conv .u8 (.t 20)) [1],⟨some 22,.gstr (.d (.str
 ⟨#[0,1,2,2,3,3,3,3,4,4,4,4,4,4,4,4,5,5,5,5,5,5,5,5,5,5,5,5,5,5,5,5,6,6,6,6,6,6,6,6,6,6,6,6,6,6,6,6,6,6,6,6,6,6,6,6,6,6,6,6,6,6,6,6,7,7,7,7,7,7,7,7,7,7,7,7,7,7,7,7,7,7,7,7,7,7,7,7,7,7,7,7,7,7,7,7,7,7,7,7,7,7,7,7,7,7,7,7,7,7,7,7,7,7,7,7,7,7,7,7,7,7,7,7,7,7,7,7,8,8,8,8,8,8,8,8,8,8,8,8,8,8,8,8,8,8,8,8,8,8,8,8,8,8,8,8,8,8,8,8,8,8,8,8,8,8,8,8,8,8,8,8,8,8,8,8,8,8,8,8,8,8,8,8,8,8,8,8,8,8,8,8,8,8,8,8,8,8,8,8,8,8,8,8,8,8,8,8,8,8,8,8,8,8,8,8,8,8,8,8,8,8,8,8,8,8,8,8,8,8,8,8,8,8,8,8,8,8,8,8,8,8,8,8,8,8,8,8,8,8,8,8,8,8,8,8]⟩)) (.t 21),none,[2]⟩,oo_ 23 (.conv .i64 (.t 22)) [3],oo_ 24 (.bin .add (.t 19) (.t 23)) [0,4],om_ 2 24 [5,0,1,2,3,4,5]]) .ret)))))
theorem o_cb : fnOf Tryz.prog o_c9 = some (o_ca, [.t 2], 25, false) := by kernel_rfl

abbrev o_cc : FuncId := 174
def o_cd : C := (.seq (.reg false [oo_ 4 (.mv (.d .nilp)) [],oo_ 5 (.mv (.d (.int .i64 0))) [0]]) (.seq (.seq (.reg false [om_ 6 0 [],oo_ 7 (.bin .lss (.t 6) (.d (.int .i64 0))) [0],om_ 8 7 [1],og_ 9 (.mv (.t 0)) 8 false [2],og_ 10
 (.bin .gtr (.t 9) (.d (.int .i64 256))) 8 false [3,2],oo_ 11 (.pick (.t 8) (.d (.bool true)) (.t 10)) [2,4],om_ 12 11 [5,2],og_ 13 (.mv (.t 1)) 12 false [6],og_ 14 (.bin .lss (.t 13) (.d (.int .i64 1))) 12 false
 [7,6],oo_ 15 (.pick (.t 12) (.d (.bool true)) (.t 14)) [6,8],om_ 16 15 [9,6],og_ 17 (.mv (.t 1)) 16 false [10],og_ 18 (.bin .gtr (.t 17) (.d (.int .i64 32))) 16 false [11,10],oo_ 19 (.pick (.t 16) (.d (.bool true)) (.t
 18)) [10,12]]) (.cond (.t 19) (.seq (.reg false [oo_ 4 (.mv (.d .nilp)) [],oo_ 5 (.mv (.d (.int .i64 10))) [0,0]]) .ret) .skip)) (.seq (.reg false [om_ 20 0 [],om_ 21 1 [],oo_ 22 (.bin .mul (.t 20) (.t 21)) [0,1],oo_ 23
 (.bin .add (.t 22) (.d (.int .i64 64))) [2],oo_ 24 (.bin .sub (.t 23) (.d (.int .i64 1))) [3],oo_ 25 (.bin .quo (.t 24) (.d (.int .i64 64))) [4],oo_ 26 (.mksl 129 1 8 [(.int .u64 0)] (.t 25) (.t 25)) [5,5],om_ 27 0
 [],om_ 28 1 [],oo_ 29 (.build [.nilsl,(.int .i64 0),(.int .i64 0)] [(0,1,(.t 26)),(1,1,(.t 27)),(2,1,(.t 28))]) [6,7,8],oo_ 30 (.box 223 (.t 29)) [9],om_ 4 30 [10,0,1,2,3,4,5,6,7,8,9,10],oo_ 5 (.mv (.d (.int .i64 0)))
 [11,0,1,2,3,4,5,6,7,8,9,10,11]]) .ret)))
theorem o_ce : fnOf Tryz.prog o_cc = some (o_cd, [.t 4, .t 5], 31, false) := by kernel_rfl

abbrev o_cf : FuncId := 175
def o_cg : C := (.seq (.reg false [oo_ 1 (.box 86 (.t 0)) [],oo_ 2 (.mv (.d (.int .i64 0))) []]) (.seq (.seq (.reg false [oo_ 5 (.load true 3 (.t 1)) [],oo_ 6 (.call 149 [(.t 5)]) [0],oo_ 7 (.bin .neq (.t 6) (.d (.int .i64 0))) [1]])
 (.cond (.t 7) (.seq (.reg false [oo_ 2 (.mv (.d (.int .i64 0))) []]) .ret) .skip)) (.seq (.reg false [oo_ 9 (.load true 3 (.t 1)) [],oo_ 10 (.call 192 [(.t 9)]) [0],om_ 8 10 [1],oo_ 11 (.ext (.t 8) 0) [2],oo_ 12 (.ext
 (.t 8) 1) [2],om_ 3 11 [3,1,0,1,2,3],om_ 4 12 [4,5,0,1,2,3,4,5]]) (.seq (.reg false [om_ 13 3 [],om_ 14 4 [],oo_ 15 (.bin .add (.t 13) (.t 14)) [0,1],oo_ 16 (.bin .add (.t 15) (.d (.int .i64 1))) [2],om_ 2 16
 [3,0,1,2,3]]) .ret))))
theorem o_ch : fnOf Tryz.prog o_cf = some (o_cg, [.t 2], 17, false) := by kernel_rfl

abbrev o_ci : FuncId := 176
def o_cj : C := (.seq (.reg false [oo_ 2 (.mv (.d .nilsl)) []]) (.seq (.seq (.reg false [om_ 3 0 [],oo_ 4 (.snl false (.t 3)) [0]]) (.cond (.t 4) (.seq (.reg false [oo_ 2 (.mv (.d .nilsl)) []]) .ret) .skip)) (.seq (.reg false [oo_ 5
 (.bsl0) [],om_ 6 0 [],oo_ 7 (.app 150 3 24 (.t 5) (.t 6)) [0,1],om_ 2 7 [2,2,0,1,2]]) .ret)))
theorem o_ck : fnOf Tryz.prog o_ci = some (o_cj, [.t 2], 8, false) := by kernel_rfl

abbrev o_cl : FuncId := 177
def o_cm : C := (.seq (.reg false [oo_ 2 (.mv (.d .nilp)) []]) (.seq (.reg true [om_ 3 0 [],oo_ 4 (.chk (.t 3)) [0],oo_ 5 (.fa 0 (.t 4)) [1],oo_ 6 (.load false 1 (.t 5)) [2],oo_ 7 (.call 209 [(.t 6)]) [3],om_ 8 0 [],oo_ 9 (.chk (.t 8))
 [5],oo_ 10 (.fa 1 (.t 9)) [6],oo_ 11 (.load true 3 (.t 10)) [7],oo_ 12 (.build [.nilp,(.int .i64 0),(.int .i64 0),(.int .i64 0)] [(0,1,(.t 7)),(1,3,(.t 11))]) [4,8],oo_ 13 (.box 154 (.t 12)) [9],om_ 2 13
 [10,4,0,1,2,3,4,5,6,7,8,9,10]]) .ret))
theorem o_cn : fnOf Tryz.prog o_cl = some (o_cm, [.t 2], 14, false) := by kernel_rfl

abbrev o_co : FuncId := 178
def o_cp : C := (.seq (.reg false [oo_ 2 (.box 131 (.t 0)) [],oo_ 4 (.mv (.d (.int .u64 0))) []]) (.seq (.reg true [oo_ 5 (.fa 0 (.t 2)) [],oo_ 6 (.load false 1 (.t 5)) [0],om_ 7 1 [],oo_ 8 (.call 210 [(.t 6),(.t 7)]) [1,2],oo_ 9 (.fa
 1 (.t 2)) [],oo_ 10 (.load false 1 (.t 9)) [4],oo_ 11 (.bin .add (.t 8) (.t 10)) [3,5],oo_ 12 (.bin .rem (.t 11) (.d (.int .u64 2305843009213693951))) [6],om_ 4 12 [7,3,0,1,2,3,4,5,6,7]]) .ret))
theorem o_cq : fnOf Tryz.prog o_co = some (o_cp, [.t 4], 13, false) := by kernel_rfl

abbrev o_cr : FuncId := 179
def o_cs : C := (.seq (.reg false [oo_ 4 (.box 86 (.t 0)) [],oo_ 6 (.box 211 (.t 2)) [],oo_ 8 (.new 211 [(.int .i64 0),(.int .i64 0),(.bool false)]) [],oo_ 9 (.mv (.d (.int .i64 0))) []]) (.seq (.seq (.reg false [oo_ 15 (.load true 3
 (.t 4)) [],oo_ 16 (.load true 3 (.t 6)) [],oo_ 17 (.bsl 211 3 1 [(.int .i64 0),(.int .i64 0),(.bool false)] [(0,3,(.t 16))]) [1],oo_ 18 (.call 181 [(.t 15),(.t 17)]) [0,2],om_ 10 18 [3,3,0,1,2,3]]) (.seq (.reg false
 [om_ 19 10 [],oo_ 20 (.bin .neq (.t 19) (.d (.int .i64 0))) [0]]) (.cond (.t 20) (.seq (.reg false [oo_ 21 (.load true 3 (.t 6)) [],om_ 22 10 [],on_ (.store 3 (.t 8) (.t 21)) [0,0],om_ 9 22 [1,2,0,1,2]]) .ret) .skip)))
 (.seq (.seq (.reg false [oo_ 23 (.fa 0 (.t 4)) [],oo_ 24 (.load false 1 (.t 23)) [0],oo_ 25 (.bin .eql (.t 24) (.d (.int .i64 4))) [1]]) (.cond (.t 25) (.seq (.reg true [oo_ 27 (.load true 3 (.t 4)) [],oo_ 28 (.call 182
 [(.t 27)]) [0],om_ 29 1 [],oo_ 30 (.load true 3 (.t 6)) [],oo_ 31 (.call 184 [(.t 30)]) [3,1],om_ 32 3 [],oo_ 33 (.call 211 [(.t 28),(.t 29),(.t 31),(.t 32)]) [1,2,4,5,4],om_ 26 33 [6],oo_ 34 (.ext (.t 26) 0) [7],oo_ 35
 (.ext (.t 26) 1) [7],oo_ 11 (.new 258 [(.int .i64 0),(.int .i64 0),(.bool false)]) [],on_ (.store 3 (.t 11) (.t 34)) [10,8,6,0,1,2,3,4,5,6,7,8,10],om_ 12 35 [9,11,0,1,2,3,4,5,6,7,8,9,10,11]]) (.seq (.reg false [oo_ 36
 (.load true 3 (.t 11)) [],oo_ 37 (.call 212 [(.t 36)]) [0],om_ 38 12 [],on_ (.store 3 (.t 8) (.t 37)) [1,1,0,1],om_ 9 38 [2,3,0,1,2,3]]) .ret)) .skip)) (.seq (.reg true [oo_ 40 (.load true 3 (.t 4)) [],oo_ 41 (.call 186
 [(.t 40)]) [0],om_ 42 1 [],oo_ 43 (.load true 3 (.t 6)) [],oo_ 44 (.call 213 [(.t 43)]) [3,1],om_ 45 3 [],oo_ 46 (.call 24 [(.t 41),(.t 42),(.t 44),(.t 45)]) [1,2,4,5,4],om_ 39 46 [6],oo_ 47 (.ext (.t 39) 0) [7],oo_ 48
 (.ext (.t 39) 1) [7],oo_ 13 (.new 59 [(.int .i64 0),(.bool false)]) [],on_ (.store 2 (.t 13) (.t 47)) [10,8,6,0,1,2,3,4,5,6,7,8,10],om_ 14 48 [9,11,0,1,2,3,4,5,6,7,8,9,10,11]]) (.seq (.reg false [oo_ 49 (.load true 2
 (.t 13)) [],oo_ 50 (.call 214 [(.t 49)]) [0],om_ 51 14 [],on_ (.store 3 (.t 8) (.t 50)) [1,1,0,1],om_ 9 51 [2,3,0,1,2,3]]) .ret)))))
theorem o_ct : fnOf Tryz.prog o_cr = some (o_cs, [.cell 8 true 3, .t 9], 52, false) := by kernel_rfl

abbrev o_cu : FuncId := 180
def o_cv : C := (.seq (.reg false [oo_ 2 (.mv (.d (.int .i64 0))) []]) (.seq (.reg false [om_ 3 0 [],oo_ 4 (.chk (.t 3)) [0],oo_ 5 (.fa 2 (.t 4)) [1],oo_ 6 (.load false 1 (.t 5)) [2],om_ 2 6 [3,0,1,2,3]]) .ret))
theorem o_cw : fnOf Tryz.prog o_cu = some (o_cv, [.t 2], 7, false) := by kernel_rfl

abbrev o_cx : FuncId := 181
def o_cy : C := (.seq (.reg false [oo_ 2 (.box 86 (.t 0)) [],oo_ 4 (.mv (.d (.int .i64 0))) []]) (.seq (.seq (.reg false [oo_ 8 (.load true 3 (.t 2)) [],oo_ 9 (.call 149 [(.t 8)]) [0],om_ 5 9 [1,1,0,1]]) (.seq (.reg false [om_ 10 5
 [],oo_ 11 (.bin .neq (.t 10) (.d (.int .i64 0))) [0]]) (.cond (.t 11) (.seq (.reg false [om_ 12 5 [],om_ 4 12 [0,0]]) .ret) .skip))) (.seq (.seq (.reg false [om_ 13 1 [],oo_ 14 (.len (.t 13)) [0],oo_ 15 (.mv (.d (.int
 .i64 0))) []]) (.block 0 (.loop (.seq (.reg false [oo_ 16 (.bin .lss (.t 15) (.t 14)) []]) (.seq (.cond (.t 16) .skip (.exit 0)) (.seq (.block 1 (.seq (.reg false [oo_ 17 (.ix 3 (.t 13) (.t 15)) [],oo_ 18 (.load true 3
 (.t 17)) [0],oo_ 7 (.new 211 [(.int .i64 0),(.int .i64 0),(.bool false)]) [],on_ (.store 3 (.t 7) (.t 18)) [2,1,0,1,2]]) (.seq (.reg false [oo_ 19 (.load true 3 (.t 2)) [],oo_ 20 (.load true 3 (.t 7)) [],oo_ 21 (.call
 193 [(.t 19),(.t 20)]) [0,1],oo_ 22 (.un .not (.t 21)) [2]]) (.cond (.t 22) (.seq (.reg false [oo_ 4 (.mv (.d (.int .i64 2))) []]) .ret) .skip)))) (.reg false [oo_ 23 (.bin .add (.t 15) (.d (.int .i64 1))) [],om_ 15 23
 [0]]))))))) (.seq (.reg false [oo_ 4 (.mv (.d (.int .i64 0))) []]) .ret))))
theorem o_cz : fnOf Tryz.prog o_cx = some (o_cy, [.t 4], 24, false) := by kernel_rfl

abbrev o_d0 : FuncId := 182
def o_d1 : C := (.seq (.reg false [oo_ 1 (.box 86 (.t 0)) [],oo_ 2 (.new 254 [(.int .i64 0),(.int .i64 0)]) []]) (.seq (.reg false [oo_ 3 (.fa 1 (.t 1)) [],oo_ 4 (.load false 1 (.t 3)) [0],oo_ 5 (.fa 2 (.t 1)) [],oo_ 6 (.load false 1
 (.t 5)) [2],oo_ 7 (.build [(.int .i64 0),(.int .i64 0)] [(0,1,(.t 4)),(1,1,(.t 6))]) [1,3],on_ (.store 2 (.t 2) (.t 7)) [4,0,1,2,3,4]]) .ret))
theorem o_d2 : fnOf Tryz.prog o_d0 = some (o_d1, [.cell 2 true 2], 8, false) := by kernel_rfl

abbrev o_d3 : FuncId := 184
def o_d4 : C := (.seq (.reg false [oo_ 1 (.box 211 (.t 0)) [],oo_ 2 (.new 258 [(.int .i64 0),(.int .i64 0),(.bool false)]) []]) (.seq (.reg false [oo_ 3 (.fa 0 (.t 1)) [],oo_ 4 (.load false 1 (.t 3)) [0],oo_ 5 (.fa 1 (.t 1)) [],oo_ 6
 (.load false 1 (.t 5)) [2],oo_ 7 (.fa 2 (.t 1)) [],oo_ 8 (.load false 1 (.t 7)) [4],oo_ 9 (.build [(.int .i64 0),(.int .i64 0),(.bool false)] [(0,1,(.t 4)),(1,1,(.t 6)),(2,1,(.t 8))]) [1,3,5],on_ (.store 3 (.t 2) (.t
 9)) [6,0,1,2,3,4,5,6]]) .ret))
theorem o_d5 : fnOf Tryz.prog o_d3 = some (o_d4, [.cell 2 true 3], 10, false) := by kernel_rfl

abbrev o_d6 : FuncId := 185
def o_d7 : C := (.seq (.reg false [oo_ 1 (.box 25 (.t 0)) [],oo_ 2 (.new 29 [.nilsl,(.bool false),.nilsl]) []]) (.seq (.reg false [oo_ 3 (.load true 1 (.t 1)) [],oo_ 4 (.call 102 [(.d (.bool false)),(.t 3)]) [0],oo_ 5 (.build
 [.nilsl,(.bool false),.nilsl] [(0,2,(.t 4))]) [1],on_ (.store 3 (.t 2) (.t 5)) [2,1,0,1,2]]) .ret))
theorem o_d8 : fnOf Tryz.prog o_d6 = some (o_d7, [.cell 2 true 3], 6, false) := by kernel_rfl

abbrev o_d9 : FuncId := 186
def o_da : C := (.seq (.reg false [oo_ 1 (.box 86 (.t 0)) [],oo_ 2 (.new 52 [(.int .i64 0),(.int .i64 0),(.int .i64 0)]) []]) (.seq (.reg false [oo_ 3 (.fa 0 (.t 1)) [],oo_ 4 (.load false 1 (.t 3)) [0],oo_ 5 (.fa 1 (.t 1)) [],oo_ 6
 (.load false 1 (.t 5)) [2],oo_ 7 (.fa 2 (.t 1)) [],oo_ 8 (.load false 1 (.t 7)) [4],oo_ 9 (.build [(.int .i64 0),(.int .i64 0),(.int .i64 0)] [(0,1,(.t 4)),(1,1,(.t 6)),(2,1,(.t 8))]) [1,3,5],on_ (.store 3 (.t 2) (.t
 9)) [6,0,1,2,3,4,5,6]]) .ret))
theorem o_db : fnOf Tryz.prog o_d9 = some (o_da, [.cell 2 true 3], 10, false) := by kernel_rfl

abbrev o_dc : FuncId := 187
def o_dd : C := (.seq (.reg false [oo_ 2 (.box 52 (.t 0)) [],oo_ 4 (.new 29 [.nilsl,(.bool false),.nilsl]) [],oo_ 5 (.mv (.d (.int .i64 0))) []]) (.seq (.seq (.reg false [oo_ 7 (.load true 3 (.t 2)) [],om_ 8 1 [],oo_ 9 (.bsl 3 1 1
 [(.int .i64 0)] [(0,1,(.t 8))]) [1],oo_ 10 (.call 69 [(.t 7),(.t 9)]) [0,2],om_ 6 10 [3,3,0,1,2,3]]) (.seq (.reg false [om_ 11 6 [],oo_ 12 (.bin .neq (.t 11) (.d (.int .i64 0))) [0]]) (.cond (.t 12) (.seq (.reg false
 [oo_ 13 (.build [.nilsl,(.bool false),.nilsl] []) [],om_ 14 6 [],on_ (.store 3 (.t 4) (.t 13)) [0,0],om_ 5 14 [1,2,0,1,2]]) .ret) .skip))) (.seq (.reg false [oo_ 15 (.load true 3 (.t 2)) [],oo_ 16 (.call 70 [(.t 15)])
 [0],om_ 17 1 [],oo_ 18 (.inv (.t 16) "tallymark/chain.value" [(.t 17)]) [1,2,1],oo_ 19 (.ext (.t 18) 0) [3],oo_ 20 (.ext (.t 18) 1) [3],on_ (.store 3 (.t 4) (.t 19)) [4,3,0,1,2,3,4,5],om_ 5 20 [5,6,0,1,2,3,4,5,6]])
 .ret)))
theorem o_de : fnOf Tryz.prog o_dc = some (o_dd, [.cell 4 true 3, .t 5], 21, false) := by kernel_rfl

abbrev o_df : FuncId := 188
def o_dg : C := (.seq (.reg false [oo_ 2 (.box 68 (.t 0)) [],oo_ 3 (.box 215 (.t 1)) [],oo_ 4 (.new 215 [(.int .i64 0),(.int .i64 0),(.bool false)]) []]) (.seq (.seq (.reg false [oo_ 6 (.fa 0 (.t 2)) [],oo_ 7 (.load false 1 (.t 6))
 [0],oo_ 8 (.bin .eql (.t 7) (.d (.int .i64 4))) [1]]) (.cond (.t 8) (.seq (.reg true [oo_ 9 (.fa 0 (.t 3)) [],oo_ 10 (.load false 1 (.t 9)) [0],oo_ 11 (.bin .and (.t 10) (.d (.int .i64 7))) [1],oo_ 12 (.fa 1 (.t 2))
 [],oo_ 13 (.load false 1 (.t 12)) [3],oo_ 14 (.bin .add (.t 13) (.d (.int .i64 1))) [4],oo_ 15 (.bin .rem (.t 11) (.t 14)) [2,5],oo_ 16 (.fa 1 (.t 3)) [],oo_ 17 (.load false 1 (.t 16)) [7],oo_ 18 (.bin .and (.t 17) (.d
 (.int .i64 3))) [8],oo_ 19 (.fa 2 (.t 2)) [],oo_ 20 (.load false 1 (.t 19)) [10],oo_ 21 (.bin .add (.t 20) (.d (.int .i64 1))) [11],oo_ 22 (.bin .rem (.t 18) (.t 21)) [9,12],oo_ 23 (.fa 0 (.t 3)) [0,1,2,3,4,5,6,7,8],on_
 (.store 1 (.t 23) (.t 15)) [14,6,0,1,2,3,4,5,6,7,8],oo_ 24 (.fa 1 (.t 3)) [0,1,2,3,4,5,6,7,8,9,10,11,12,13,14,15],on_ (.store 1 (.t 24) (.t 22)) [16,13,15,0,1,2,3,4,5,6,7,8,9,10,11,12,13,14,15]]) (.seq (.reg false [oo_
 25 (.fa 2 (.t 3)) [],oo_ 26 (.load false 1 (.t 25)) [0],om_ 27 26 [1],og_ 28 (.fa 1 (.t 3)) 27 true [2],og_ 29 (.load false 1 (.t 28)) 27 true [3,2],og_ 30 (.fa 2 (.t 2)) 27 true [2],og_ 31 (.load false 1 (.t 30)) 27
 true [5,2],og_ 32 (.bin .eql (.t 29) (.t 31)) 27 true [4,6,2],oo_ 33 (.pick (.t 27) (.t 32) (.d (.bool false))) [2,7],oo_ 34 (.fa 2 (.t 3)) [0,1,2,3,4,5,6,7,8],on_ (.store 1 (.t 34) (.t 33)) [9,8,2,0,1,2,3,4,5,6,7,8]])
 (.seq (.reg false [oo_ 35 (.load true 3 (.t 3)) [],on_ (.store 3 (.t 4) (.t 35)) [0,0]]) .ret))) .skip)) (.seq (.reg false [oo_ 36 (.fa 2 (.t 2)) [],oo_ 37 (.load false 1 (.t 36)) [0],oo_ 38 (.bin .shl (.d (.int .i64
 1)) (.t 37)) [1],oo_ 39 (.bin .sub (.t 38) (.d (.int .i64 1))) [2],om_ 5 39 [3,0,1,2,3]]) (.seq (.reg false [oo_ 40 (.fa 0 (.t 3)) [],oo_ 41 (.load false 1 (.t 40)) [0],oo_ 42 (.bin .and (.t 41) (.d (.int .i64 15)))
 [1],om_ 43 5 [],oo_ 44 (.bin .add (.t 43) (.d (.int .i64 1))) [3],oo_ 45 (.bin .rem (.t 42) (.t 44)) [2,4],oo_ 46 (.fa 0 (.t 3)) [0,1,2,3,4,5],on_ (.store 1 (.t 46) (.t 45)) [6,5,0,1,2,3,4,5],oo_ 47 (.fa 1 (.t 3))
 [0,1,2,3,4,5,6,7],on_ (.store 1 (.t 47) (.d (.int .i64 0))) [8,7,0,1,2,3,4,5,6,7]]) (.seq (.reg false [oo_ 48 (.fa 2 (.t 3)) [],oo_ 49 (.load false 1 (.t 48)) [0],om_ 50 49 [1],og_ 51 (.fa 0 (.t 3)) 50 true [2],og_ 52
 (.load false 1 (.t 51)) 50 true [3,2],og_ 53 (.mv (.t 5)) 50 true [2],og_ 54 (.bin .eql (.t 52) (.t 53)) 50 true [4,5,2],oo_ 55 (.pick (.t 50) (.t 54) (.d (.bool false))) [2,6],oo_ 56 (.fa 2 (.t 3))
 [0,1,2,3,4,5,6,7],on_ (.store 1 (.t 56) (.t 55)) [8,7,2,0,1,2,3,4,5,6,7]]) (.seq (.reg false [oo_ 57 (.load true 3 (.t 3)) [],on_ (.store 3 (.t 4) (.t 57)) [0,0]]) .ret))))))
theorem o_dh : fnOf Tryz.prog o_df = some (o_dg, [.cell 4 true 3], 58, false) := by kernel_rfl

abbrev o_di : FuncId := 189
def o_dj : C := (.seq (.reg false [oo_ 4 (.mv (.d (.int .i64 0))) [],oo_ 5 (.mv (.d (.int .i64 0))) [0]]) (.seq (.reg true [om_ 6 1 [],om_ 7 0 [],oo_ 8 (.chk (.t 7)) [1],oo_ 9 (.fa 2 (.t 8)) [2],oo_ 10 (.load false 1 (.t 9)) [3],oo_ 11
 (.bin .mul (.t 6) (.t 10)) [0,4],oo_ 12 (.bin .quo (.t 11) (.d (.int .i64 64))) [5],om_ 13 1 [],om_ 14 0 [],oo_ 15 (.chk (.t 14)) [8],oo_ 16 (.fa 2 (.t 15)) [9],oo_ 17 (.load false 1 (.t 16)) [10],oo_ 18 (.bin .mul (.t
 13) (.t 17)) [7,11],oo_ 19 (.bin .rem (.t 18) (.d (.int .i64 64))) [12],om_ 4 12 [6,0,1,2,3,4,5,6],om_ 5 19 [13,14,0,1,2,3,4,5,6,7,8,9,10,11,12,13,14]]) .ret))
theorem o_dk : fnOf Tryz.prog o_di = some (o_dj, [.t 4, .t 5], 20, false) := by kernel_rfl

abbrev o_dl : FuncId := 190
def o_dm : C := (.seq (.reg false [oo_ 2 (.mv (.d (.int .u64 0))) []]) (.seq (.reg false [om_ 3 0 [],oo_ 4 (.chk (.t 3)) [0],oo_ 5 (.fa 2 (.t 4)) [1],oo_ 6 (.load false 1 (.t 5)) [2],oo_ 7 (.bin .shl (.d (.int .u64 1)) (.t 6)) [3],oo_
 8 (.bin .sub (.t 7) (.d (.int .u64 1))) [4],om_ 2 8 [5,0,1,2,3,4,5]]) .ret))
theorem o_dn : fnOf Tryz.prog o_dl = some (o_dm, [.t 2], 9, false) := by kernel_rfl

abbrev o_do : FuncId := 191
def o_dp : C := (.seq (.reg false [oo_ 1 (.box 254 (.t 0)) [],oo_ 2 (.mv (.d (.int .i64 0))) []]) (.seq (.seq (.reg false [oo_ 3 (.fa 0 (.t 1)) [],oo_ 4 (.load false 1 (.t 3)) [0],oo_ 5 (.bin .lss (.t 4) (.d (.int .i64 1))) [1],om_ 6 5
 [2],og_ 7 (.fa 0 (.t 1)) 6 false [3],og_ 8 (.load false 1 (.t 7)) 6 false [4,3],og_ 9 (.bin .gtr (.t 8) (.d (.int .i64 1023))) 6 false [5,3],oo_ 10 (.pick (.t 6) (.d (.bool true)) (.t 9)) [3,6],om_ 11 10 [7,3],og_ 12
 (.fa 1 (.t 1)) 11 false [8],og_ 13 (.load false 1 (.t 12)) 11 false [9,8],og_ 14 (.bin .lss (.t 13) (.d (.int .i64 0))) 11 false [10,8],oo_ 15 (.pick (.t 11) (.d (.bool true)) (.t 14)) [8,11],om_ 16 15 [12,8],og_ 17
 (.fa 1 (.t 1)) 16 false [13],og_ 18 (.load false 1 (.t 17)) 16 false [14,13],og_ 19 (.bin .gtr (.t 18) (.d (.int .i64 20))) 16 false [15,13],oo_ 20 (.pick (.t 16) (.d (.bool true)) (.t 19)) [13,16]]) (.cond (.t 20)
 (.seq (.reg false [oo_ 2 (.mv (.d (.int .i64 10))) []]) .ret) .skip)) (.seq (.reg false [oo_ 2 (.mv (.d (.int .i64 0))) []]) .ret)))
theorem o_dq : fnOf Tryz.prog o_do = some (o_dp, [.t 2], 21, false) := by kernel_rfl

abbrev o_dr : FuncId := 192
def o_ds : C := (.seq (.reg false [oo_ 1 (.box 86 (.t 0)) [],oo_ 2 (.mv (.d (.int .i64 0))) [],oo_ 3 (.mv (.d (.int .i64 0))) [1]]) (.seq (.seq (.reg false [oo_ 4 (.fa 0 (.t 1)) [],oo_ 5 (.load false 1 (.t 4)) [0],oo_ 6 (.bin .eql (.t
 5) (.d (.int .i64 4))) [1]]) (.cond (.t 6) (.seq (.reg true [oo_ 7 (.fa 1 (.t 1)) [],oo_ 8 (.load false 1 (.t 7)) [0],oo_ 9 (.conv .u64 (.t 8)) [1],oo_ 10 (.call 127 [(.t 9)]) [2],oo_ 11 (.fa 2 (.t 1)) [],oo_ 12 (.load
 false 1 (.t 11)) [4],oo_ 13 (.conv .u64 (.t 12)) [5],oo_ 14 (.call 127 [(.t 13)]) [6,3],om_ 2 10 [3,7,0,1,2,3],om_ 3 14 [7,8,0,1,2,3,4,5,6,7,8]]) .ret) .skip)) (.seq (.reg false [oo_ 15 (.fa 2 (.t 1)) [],oo_ 16 (.load
 false 1 (.t 15)) [0],om_ 2 16 [1,0,1],oo_ 3 (.mv (.d (.int .i64 0))) [2,0,1,2]]) .ret)))
theorem o_dt : fnOf Tryz.prog o_dr = some (o_ds, [.t 2, .t 3], 17, false) := by kernel_rfl

abbrev o_du : FuncId := 193
def o_dv : C := (.seq (.reg false [oo_ 2 (.box 86 (.t 0)) [],oo_ 3 (.box 211 (.t 1)) [],oo_ 4 (.mv (.d (.bool false))) []]) (.seq (.seq (.reg false [oo_ 6 (.load true 3 (.t 2)) [],oo_ 7 (.call 149 [(.t 6)]) [0],oo_ 8 (.bin .neq (.t 7)
 (.d (.int .i64 0))) [1]]) (.cond (.t 8) (.seq (.reg false [oo_ 4 (.mv (.d (.bool false))) []]) .ret) .skip)) (.seq (.seq (.reg false [oo_ 9 (.fa 0 (.t 2)) [],oo_ 10 (.load false 1 (.t 9)) [0],oo_ 11 (.bin .eql (.t 10)
 (.d (.int .i64 4))) [1]]) (.cond (.t 11) (.seq (.reg true [oo_ 12 (.load true 3 (.t 2)) [],oo_ 13 (.call 182 [(.t 12)]) [0],oo_ 14 (.load true 3 (.t 3)) [],oo_ 15 (.call 184 [(.t 14)]) [2,1],oo_ 16 (.call 217 [(.t
 13),(.t 15)]) [1,3,3],om_ 4 16 [4,4,0,1,2,3,4]]) .ret) .skip)) (.seq (.reg false [oo_ 17 (.load true 3 (.t 2)) [],oo_ 18 (.call 186 [(.t 17)]) [0],oo_ 19 (.call 67 [(.t 18)]) [1,1],om_ 5 19 [2,2,0,1,2]]) (.seq (.reg
 false [oo_ 20 (.fa 1 (.t 3)) [],oo_ 21 (.load false 1 (.t 20)) [0],oo_ 22 (.bin .eql (.t 21) (.d (.int .i64 0))) [1],om_ 23 22 [2],og_ 24 (.fa 0 (.t 3)) 23 true [3],og_ 25 (.load false 1 (.t 24)) 23 true [4,3],og_ 26
 (.bin .geq (.t 25) (.d (.int .i64 0))) 23 true [5,3],oo_ 27 (.pick (.t 23) (.t 26) (.d (.bool false))) [3,6],om_ 28 27 [7,3],og_ 29 (.fa 0 (.t 3)) 28 true [8],og_ 30 (.load false 1 (.t 29)) 28 true [9,8],og_ 31 (.mv (.t
 5)) 28 true [8],og_ 32 (.bin .leq (.t 30) (.t 31)) 28 true [10,11,8],oo_ 33 (.pick (.t 28) (.t 32) (.d (.bool false))) [8,12],om_ 34 33 [13,8],og_ 35 (.fa 2 (.t 3)) 34 true [14],og_ 36 (.load false 1 (.t 35)) 34 true
 [15,14],og_ 37 (.un .not (.t 36)) 34 true [16,14],og_ 38 (.mv (.t 37)) 34 true [17,14,14],og_ 39 (.fa 0 (.t 3)) 38 false [18],og_ 40 (.load false 1 (.t 39)) 38 false [19,18],og_ 41 (.mv (.t 5)) 38 false [18],og_ 42
 (.bin .eql (.t 40) (.t 41)) 38 false [20,21,18],og_ 43 (.pick (.t 38) (.d (.bool true)) (.t 42)) 34 true [18,22,14],oo_ 44 (.pick (.t 34) (.t 43) (.d (.bool false))) [14,23],om_ 4 44
 [24,18,0,1,2,3,4,5,6,7,8,9,10,11,12,13,14,15,16,17,18,19,20,21,22,23,24]]) .ret)))))
theorem o_dw : fnOf Tryz.prog o_du = some (o_dv, [.t 4], 45, false) := by kernel_rfl

abbrev o_dx : FuncId := 194
def o_dy : C := (.seq (.reg false [oo_ 3 (.box 86 (.t 0)) [],oo_ 5 (.box 211 (.t 2)) [],oo_ 6 (.mv (.d (.int .i64 0))) []]) (.seq (.seq (.reg false [oo_ 10 (.load true 3 (.t 3)) [],oo_ 11 (.load true 3 (.t 5)) [],oo_ 12 (.bsl 211 3 1
 [(.int .i64 0),(.int .i64 0),(.bool false)] [(0,3,(.t 11))]) [1],oo_ 13 (.call 181 [(.t 10),(.t 12)]) [0,2],om_ 7 13 [3,3,0,1,2,3]]) (.seq (.reg false [om_ 14 7 [],oo_ 15 (.bin .neq (.t 14) (.d (.int .i64 0))) [0]])
 (.cond (.t 15) (.seq (.reg false [om_ 16 7 [],om_ 6 16 [0,0]]) .ret) .skip))) (.seq (.reg false [oo_ 18 (.load true 3 (.t 3)) [],oo_ 19 (.call 192 [(.t 18)]) [0],om_ 17 19 [1],oo_ 20 (.ext (.t 17) 0) [2],oo_ 21 (.ext
 (.t 17) 1) [2],om_ 8 20 [3,1,0,1,2,3],om_ 9 21 [4,5,0,1,2,3,4,5]]) (.seq (.reg false [om_ 22 1 [],oo_ 23 (.fa 0 (.t 5)) [],oo_ 24 (.load false 1 (.t 23)) [1],oo_ 25 (.conv .u64 (.t 24)) [2],om_ 26 8 [],oo_ 27 (.call 87
 [(.t 22),(.t 25),(.t 26)]) [0,3,4]]) (.seq (.reg false [om_ 28 1 [],oo_ 29 (.fa 1 (.t 5)) [],oo_ 30 (.load false 1 (.t 29)) [1],oo_ 31 (.conv .u64 (.t 30)) [2],om_ 32 9 [],oo_ 33 (.call 87 [(.t 28),(.t 31),(.t 32)])
 [0,3,4]]) (.seq (.reg false [om_ 34 1 [],oo_ 35 (.fa 2 (.t 5)) [],oo_ 36 (.load false 1 (.t 35)) [1],oo_ 37 (.call 147 [(.t 34),(.t 36)]) [0,2]]) (.seq (.reg false [oo_ 6 (.mv (.d (.int .i64 0))) []]) .ret)))))))
theorem o_dz : fnOf Tryz.prog o_dx = some (o_dy, [.t 6], 38, false) := by kernel_rfl

abbrev o_e0 : FuncId := 195
def o_e1 : C := (.seq (.reg false [oo_ 6 (.mv (.d (.int .i64 0))) []]) (.seq (.block 0 (.seq (.reg false [om_ 11 1 [],oo_ 12 (.bin .lss (.t 11) (.d (.int .i64 0))) [0],om_ 13 12 [1],og_ 14 (.mv (.t 1)) 13 false [2],og_ 15 (.mv (.t 0))
 13 false [2],og_ 16 (.chk (.t 15)) 13 false [4,2],og_ 17 (.fa 1 (.t 16)) 13 false [5,2],og_ 18 (.load false 1 (.t 17)) 13 false [6,2],og_ 19 (.bin .geq (.t 14) (.t 18)) 13 false [3,7,2],oo_ 20 (.pick (.t 13) (.d (.bool
 true)) (.t 19)) [2,8],om_ 10 20 [9,2]]) (.cond (.t 10) (.seq (.reg false [oo_ 6 (.mv (.d (.int .i64 1))) []]) .ret) (.seq (.reg false [om_ 22 2 [],om_ 23 0 [],oo_ 24 (.call 190 [(.t 23)]) [1],oo_ 25 (.bin .gtr (.t 22)
 (.t 24)) [0,2],om_ 21 25 [3,2]]) (.cond (.t 21) (.seq (.reg false [oo_ 6 (.mv (.d (.int .i64 2))) []]) .ret) .skip))))) (.seq (.reg false [om_ 27 0 [],om_ 28 1 [],oo_ 29 (.call 189 [(.t 27),(.t 28)]) [0,1],om_ 26 29
 [2],oo_ 30 (.ext (.t 26) 0) [3],oo_ 31 (.ext (.t 26) 1) [3],om_ 7 30 [4,2,0,1,2,3,4],om_ 8 31 [5,6,0,1,2,3,4,5,6]]) (.seq (.reg true [om_ 32 0 [],oo_ 33 (.chk (.t 32)) [0],oo_ 34 (.fa 0 (.t 33)) [1],oo_ 35 (.load false
 1 (.t 34)) [2],om_ 36 7 [],om_ 37 0 [],oo_ 38 (.chk (.t 37)) [5],oo_ 39 (.fa 0 (.t 38)) [6],oo_ 40 (.load false 1 (.t 39)) [7],om_ 41 7 [],oo_ 42 (.ix 1 (.t 40) (.t 41)) [8,9],oo_ 43 (.load false 1 (.t 42)) [10],om_ 44
 0 [],oo_ 45 (.call 190 [(.t 44)]) [12],om_ 46 8 [],oo_ 47 (.bin .shl (.t 45) (.t 46)) [13,14],oo_ 48 (.bin .andNot (.t 43) (.t 47)) [11,15],om_ 49 2 [],om_ 50 8 [],oo_ 51 (.bin .shl (.t 49) (.t 50)) [17,18],oo_ 52 (.bin
 .or (.t 48) (.t 51)) [16,19],oo_ 53 (.ix 1 (.t 35) (.t 36)) [3,4,0,1,2,3,4,5,6,7,8,9,10,11,12,13,14,15,16,17,18,19,20],on_ (.store 1 (.t 53) (.t 52)) [21,20,13,0,1,2,3,4,5,6,7,8,9,10,11,12,13,14,15,16,17,18,19,20]])
 (.seq (.seq (.reg false [om_ 54 8 [],om_ 55 0 [],oo_ 56 (.chk (.t 55)) [1],oo_ 57 (.fa 2 (.t 56)) [2],oo_ 58 (.load false 1 (.t 57)) [3],oo_ 59 (.bin .add (.t 54) (.t 58)) [0,4],oo_ 60 (.bin .gtr (.t 59) (.d (.int .i64
 64))) [5]]) (.cond (.t 60) (.seq (.reg false [om_ 61 8 [],oo_ 62 (.bin .sub (.d (.int .i64 64)) (.t 61)) [0],om_ 9 62 [1,0,1]]) (.reg true [om_ 63 0 [],oo_ 64 (.chk (.t 63)) [0],oo_ 65 (.fa 0 (.t 64)) [1],oo_ 66 (.load
 false 1 (.t 65)) [2],om_ 67 7 [],oo_ 68 (.bin .add (.t 67) (.d (.int .i64 1))) [4],om_ 69 0 [],oo_ 70 (.chk (.t 69)) [6],oo_ 71 (.fa 0 (.t 70)) [7],oo_ 72 (.load false 1 (.t 71)) [8],om_ 73 7 [],oo_ 74 (.bin .add (.t
 73) (.d (.int .i64 1))) [10],oo_ 75 (.ix 1 (.t 72) (.t 74)) [9,11],oo_ 76 (.load false 1 (.t 75)) [12],om_ 77 0 [],oo_ 78 (.call 190 [(.t 77)]) [14],om_ 79 9 [],oo_ 80 (.bin .shr (.t 78) (.t 79)) [15,16],oo_ 81 (.bin
 .andNot (.t 76) (.t 80)) [13,17],om_ 82 2 [],om_ 83 9 [],oo_ 84 (.bin .shr (.t 82) (.t 83)) [19,20],oo_ 85 (.bin .or (.t 81) (.t 84)) [18,21],oo_ 86 (.ix 1 (.t 66) (.t 68))
 [3,5,0,1,2,3,4,5,6,7,8,9,10,11,12,13,14,15,16,17,18,19,20,21,22],on_ (.store 1 (.t 86) (.t 85)) [23,22,15,0,1,2,3,4,5,6,7,8,9,10,11,12,13,14,15,16,17,18,19,20,21,22]])) .skip)) (.seq (.reg false [oo_ 6 (.mv (.d (.int
 .i64 0))) []]) .ret))))))
theorem o_e2 : fnOf Tryz.prog o_e0 = some (o_e1, [.t 6], 87, false) := by kernel_rfl

abbrev o_e3 : FuncId := 196
def o_e4 : C := (.seq (.reg false [oo_ 4 (.mv (.d (.bool false))) []]) (.seq (.seq (.reg false [om_ 6 0 [],oo_ 7 (.len (.t 6)) [0],om_ 8 1 [],oo_ 9 (.len (.t 8)) [2],oo_ 10 (.bin .neq (.t 7) (.t 9)) [1,3]]) (.cond (.t 10) (.seq (.reg
 false [oo_ 4 (.mv (.d (.bool false))) []]) .ret) .skip)) (.seq (.seq (.reg false [om_ 11 0 [],oo_ 12 (.len (.t 11)) [0],oo_ 13 (.mv (.d (.int .i64 0))) []]) (.block 0 (.loop (.seq (.reg false [oo_ 14 (.bin .lss (.t 13)
 (.t 12)) []]) (.seq (.cond (.t 14) .skip (.exit 0)) (.seq (.block 1 (.seq (.reg false [om_ 15 13 [],om_ 5 15 [0,0]]) (.seq (.reg true [om_ 16 0 [],om_ 17 5 [],oo_ 18 (.ix 1 (.t 16) (.t 17)) [0,1],oo_ 19 (.load false 1
 (.t 18)) [2],om_ 20 1 [],om_ 21 5 [],oo_ 22 (.ix 1 (.t 20) (.t 21)) [4,5],oo_ 23 (.load false 1 (.t 22)) [6],oo_ 24 (.bin .neq (.t 19) (.t 23)) [3,7]]) (.cond (.t 24) (.seq (.reg false [oo_ 4 (.mv (.d (.bool false)))
 []]) .ret) .skip)))) (.reg false [oo_ 25 (.bin .add (.t 13) (.d (.int .i64 1))) [],om_ 13 25 [0]]))))))) (.seq (.reg false [oo_ 4 (.mv (.d (.bool true))) []]) .ret))))
theorem o_e5 : fnOf Tryz.prog o_e3 = some (o_e4, [.t 4], 26, false) := by kernel_rfl

abbrev o_e6 : FuncId := 198
def o_e7 : C := (.seq (.reg false [⟨some 2,.mv (.d (.str ⟨#[]⟩)),none,[]⟩]) (.seq (.seq (.reg false [om_ 3 0 [],oo_ 4 (.bin .lss (.t 3) (.d (.int .i64 10))) [0]]) (.cond (.t 4) (.seq (.reg false [om_ 5 0 [],om_ 6 0 [],oo_ 7 (.bin .add
 (.t 6) (.d (.int .i64 1))) [1],⟨some 8,.sstr (.d (.str ⟨#[48,49,50,51,52,53,54,55,56,57,97,98,99,100,101,102,103,104,105,106,107,108,109,110,111,112,113,114,115,116,117,118,119,120,121,122]⟩)) (some (.t 5)) (some (.t
 7)),none,[0,2]⟩,om_ 2 8 [3,0,1,2,3]]) .ret) .skip)) (.seq (.reg false [om_ 9 0 [],oo_ 10 (.bin .mul (.t 9) (.d (.int .i64 2))) [0],om_ 11 0 [],oo_ 12 (.bin .mul (.t 11) (.d (.int .i64 2))) [2],oo_ 13 (.bin .add (.t 12)
 (.d (.int .i64 2))) [3],⟨some 14,.sstr (.d (.str
 ⟨#[48,48,48,49,48,50,48,51,48,52,48,53,48,54,48,55,48,56,48,57,49,48,49,49,49,50,49,51,49,52,49,53,49,54,49,55,49,56,49,57,50,48,50,49,50,50,50,51,50,52,50,53,50,54,50,55,50,56,50,57,51,48,51,49,51,50,51,51,51,52,51,53,51,54,51,55,51,56,51,57,52,48,52,49,52,50,52,51,52,52,52,53,52,54,52,55,52,56,52,57,53,48,53,49,53,50,53,51,53,52,53,53,53,54,53,55,53,56,53,57,54,48,54,49,54,50,54,51,54,52,54,53,54,54,54,55,54,56,54,57,55,48,55,49,55,50,55,51,55,52,55,53,55,54,55,55,55,56,55,57,56,48,56,49,56,50,56,51,56,52,56,53,56,54,56,55,56,56,56,57,57,48,57,49,57,50,57,51,57,52,57,53,57,54,57,55,57,56,57,57]⟩)) (some (.t 10)) (some (.t 13)),none,[1,4]⟩,om_ 2 14 [5,0,1,2,3,4,5]]) .ret)))
theorem o_e8 : fnOf Tryz.prog o_e6 = some (o_e7, [.t 2], 15, false) := by kernel_rfl

abbrev o_e9 : FuncId := 206
def o_ea : C := (.seq (.reg false [oo_ 4 (.mv (.d .nilsl)) []]) (.seq (.reg false [om_ 8 0 [],oo_ 9 (.len (.t 8)) [0],oo_ 10 (.bin .add (.t 9) (.d (.int .i64 1))) [1],oo_ 11 (.mksl 129 1 8 [(.int .u64 0)] (.t 10) (.t 10)) [2,2],om_ 5
 11 [3,0,1,2,3]]) (.seq (.seq (.reg false [om_ 12 0 [],oo_ 13 (.len (.t 12)) [0],oo_ 14 (.mv (.d (.int .i64 0))) []]) (.block 0 (.loop (.seq (.reg false [oo_ 15 (.bin .lss (.t 14) (.t 13)) []]) (.seq (.cond (.t 15) .skip
 (.exit 0)) (.seq (.block 1 (.seq (.reg false [om_ 16 14 [],oo_ 17 (.ix 1 (.t 12) (.t 14)) [],oo_ 18 (.load false 1 (.t 17)) [1],om_ 6 16 [0,0,1,2],om_ 7 18 [2,3,0,1,2,3]]) (.seq (.reg true [om_ 19 5 [],om_ 20 6 [],oo_
 21 (.ix 1 (.t 19) (.t 20)) [0,1],oo_ 22 (.load false 1 (.t 21)) [2],om_ 23 7 [],om_ 24 1 [],oo_ 25 (.bin .shl (.t 23) (.t 24)) [4,5],oo_ 26 (.bin .or (.t 22) (.t 25)) [3,6],oo_ 27 (.ix 1 (.t 19) (.t 20))
 [0,1,0,1,2,3,4,5,6,7],on_ (.store 1 (.t 27) (.t 26)) [8,7,0,1,2,3,4,5,6,7]]) (.reg false [om_ 28 5 [],om_ 29 6 [],oo_ 30 (.bin .add (.t 29) (.d (.int .i64 1))) [1],om_ 31 7 [],om_ 32 1 [],oo_ 33 (.bin .sub (.d (.int
 .i64 64)) (.t 32)) [4],oo_ 34 (.bin .shr (.t 31) (.t 33)) [3,5],oo_ 35 (.ix 1 (.t 28) (.t 30)) [0,2,0,1,2,3,4,5,6],on_ (.store 1 (.t 35) (.t 34)) [7,6,0,1,2,3,4,5,6]])))) (.reg false [oo_ 36 (.bin .add (.t 14) (.d (.int
 .i64 1))) [],om_ 14 36 [0]]))))))) (.seq (.reg false [om_ 37 5 [],om_ 4 37 [0,0]]) .ret))))
theorem o_eb : fnOf Tryz.prog o_e9 = some (o_ea, [.t 4], 38, false) := by kernel_rfl

abbrev o_ec : FuncId := 208
def o_ed : C := (.seq (.reg false [oo_ 2 (.box 25 (.t 0)) [],oo_ 4 (.new 25 [.nilsl]) []]) (.seq (.reg false [om_ 8 1 [],oo_ 9 (.mm true [(.d (.int .i64 0)),(.t 8)]) [0],om_ 1 9 [1,0,1]]) (.seq (.seq (.reg false [om_ 10 1 [],oo_ 11
 (.bin .quo (.t 10) (.d (.int .i64 64))) [0],oo_ 12 (.fa 0 (.t 2)) [],oo_ 13 (.load false 1 (.t 12)) [2],oo_ 14 (.len (.t 13)) [3],oo_ 15 (.bin .geq (.t 11) (.t 14)) [1,4]]) (.cond (.t 15) (.seq (.reg false [oo_ 16
 (.build [.nilsl] []) [],on_ (.store 1 (.t 4) (.t 16)) [0,0]]) .ret) .skip)) (.seq (.reg false [oo_ 17 (.fa 0 (.t 2)) [],oo_ 18 (.load false 1 (.t 17)) [0],om_ 19 1 [],oo_ 20 (.bin .quo (.t 19) (.d (.int .i64 64)))
 [2],oo_ 21 (.slice 1 (.t 18) (some (.t 20)) none none) [1,3],oo_ 22 (.call 157 [(.t 21)]) [4],om_ 5 22 [5,5,0,1,2,3,4,5]]) (.seq (.seq (.reg false [om_ 23 1 [],oo_ 24 (.bin .rem (.t 23) (.d (.int .i64 64))) [0],oo_ 6
 (.mv (.d (.int .i64 0))) [],om_ 7 24 [1,2,0,1,2]]) (.block 0 (.loop (.seq (.seq (.reg false [om_ 25 6 [],om_ 26 5 [],oo_ 27 (.len (.t 26)) [1],oo_ 28 (.bin .lss (.t 25) (.t 27)) [0,2]]) (.cond (.t 28) .skip (.exit 0)))
 (.seq (.block 1 (.seq (.reg false [om_ 31 5 [],om_ 32 6 [],oo_ 33 (.ix 1 (.t 31) (.t 32)) [0,1],oo_ 34 (.load false 1 (.t 33)) [2],om_ 35 7 [],oo_ 36 (.bin .shr (.t 34) (.t 35)) [3,4],oo_ 37 (.ix 1 (.t 31) (.t 32))
 [0,1,0,1,2,3,4,5],on_ (.store 1 (.t 37) (.t 36)) [6,5,0,1,2,3,4,5]]) (.seq (.reg false [om_ 38 6 [],oo_ 39 (.bin .add (.t 38) (.d (.int .i64 1))) [0],om_ 40 5 [],oo_ 41 (.len (.t 40)) [2],oo_ 42 (.bin .lss (.t 39) (.t
 41)) [1,3]]) (.cond (.t 42) (.reg true [om_ 43 5 [],om_ 44 6 [],oo_ 45 (.ix 1 (.t 43) (.t 44)) [0,1],oo_ 46 (.load false 1 (.t 45)) [2],om_ 47 5 [],om_ 48 6 [],oo_ 49 (.bin .add (.t 48) (.d (.int .i64 1))) [5],oo_ 50
 (.ix 1 (.t 47) (.t 49)) [4,6],oo_ 51 (.load false 1 (.t 50)) [7],om_ 52 7 [],oo_ 53 (.bin .sub (.d (.int .i64 64)) (.t 52)) [9],oo_ 54 (.bin .shl (.t 51) (.t 53)) [8,10],oo_ 55 (.bin .or (.t 46) (.t 54)) [3,11],oo_ 56
 (.ix 1 (.t 43) (.t 44)) [0,1,0,1,2,3,4,5,6,7,8,9,10,11,12],on_ (.store 1 (.t 56) (.t 55)) [13,12,0,1,2,3,4,5,6,7,8,9,10,11,12]]) .skip)))) (.reg false [om_ 29 6 [],oo_ 30 (.bin .add (.t 29) (.d (.int .i64 1))) [0],om_ 6
 30 [1,0,1]])))))) (.seq (.reg false [om_ 57 5 [],oo_ 58 (.call 109 [(.t 57)]) [0],on_ (.store 1 (.t 4) (.t 58)) [1,1,0,1]]) .ret))))))
theorem o_ee : fnOf Tryz.prog o_ec = some (o_ed, [.cell 4 true 1], 59, false) := by kernel_rfl

abbrev o_ef : FuncId := 209
def o_eg : C := (.seq (.reg false [oo_ 2 (.mv (.d .nilp)) []]) (.seq (.reg true [om_ 3 0 [],oo_ 4 (.chk (.t 3)) [0],oo_ 5 (.fa 0 (.t 4)) [1],oo_ 6 (.load false 1 (.t 5)) [2],oo_ 7 (.call 157 [(.t 6)]) [3],om_ 8 0 [],oo_ 9 (.chk (.t 8))
 [5],oo_ 10 (.fa 1 (.t 9)) [6],oo_ 11 (.load false 1 (.t 10)) [7],om_ 12 0 [],oo_ 13 (.chk (.t 12)) [9],oo_ 14 (.fa 2 (.t 13)) [10],oo_ 15 (.load false 1 (.t 14)) [11],oo_ 16 (.build [.nilsl,(.int .i64 0),(.int .i64 0)]
 [(0,1,(.t 7)),(1,1,(.t 11)),(2,1,(.t 15))]) [4,8,12],oo_ 17 (.box 223 (.t 16)) [13],om_ 2 17 [14,4,0,1,2,3,4,5,6,7,8,9,10,11,12,13,14]]) .ret))
theorem o_eh : fnOf Tryz.prog o_ef = some (o_eg, [.t 2], 18, false) := by kernel_rfl

abbrev o_ei : FuncId := 210
def o_ej : C := (.seq (.reg false [oo_ 4 (.mv (.d (.int .u64 0))) []]) (.seq (.reg false [om_ 8 0 [],oo_ 9 (.bin .rem (.t 8) (.d (.int .u64 2305843009213693951))) [0],om_ 10 1 [],oo_ 11 (.bin .rem (.t 10) (.d (.int .u64
 2305843009213693951))) [2],oo_ 12 (.call 116 [(.t 9),(.t 11)]) [1,3],om_ 7 12 [4],oo_ 13 (.ext (.t 7) 0) [5],oo_ 14 (.ext (.t 7) 1) [5],om_ 5 13 [6,4,0,1,2,3,4,5,6],om_ 6 14 [7,8,0,1,2,3,4,5,6,7,8]]) (.seq (.reg false
 [om_ 15 6 [],oo_ 16 (.bin .and (.t 15) (.d (.int .u64 2305843009213693951))) [0],om_ 17 5 [],oo_ 18 (.bin .shl (.t 17) (.d (.int .u64 3))) [2],om_ 19 6 [],oo_ 20 (.bin .shr (.t 19) (.d (.int .u64 61))) [4],oo_ 21 (.bin
 .or (.t 18) (.t 20)) [3,5],oo_ 22 (.bin .add (.t 16) (.t 21)) [1,6],oo_ 23 (.bin .rem (.t 22) (.d (.int .u64 2305843009213693951))) [7],om_ 4 23 [8,0,1,2,3,4,5,6,7,8]]) .ret)))
theorem o_ek : fnOf Tryz.prog o_ei = some (o_ej, [.t 4], 24, false) := by kernel_rfl

abbrev o_el : FuncId := 211
def o_em : C := (.seq (.reg false [oo_ 4 (.box 254 (.t 0)) [],oo_ 6 (.box 258 (.t 2)) [],oo_ 8 (.new 258 [(.int .i64 0),(.int .i64 0),(.bool false)]) [],oo_ 9 (.mv (.d (.int .i64 0))) []]) (.seq (.seq (.reg false [oo_ 14 (.load true 2
 (.t 4)) [],oo_ 15 (.load true 3 (.t 6)) [],oo_ 16 (.bsl 258 3 1 [(.int .i64 0),(.int .i64 0),(.bool false)] [(0,3,(.t 15))]) [1],oo_ 17 (.call 215 [(.t 14),(.t 16)]) [0,2],om_ 10 17 [3,3,0,1,2,3]]) (.seq (.reg false
 [om_ 18 10 [],oo_ 19 (.bin .neq (.t 18) (.d (.int .i64 0))) [0]]) (.cond (.t 19) (.seq (.reg false [oo_ 20 (.load true 3 (.t 6)) [],om_ 21 10 [],on_ (.store 3 (.t 8) (.t 20)) [0,0],om_ 9 21 [1,2,0,1,2]]) .ret) .skip)))
 (.seq (.seq (.reg false [om_ 22 3 [],oo_ 23 (.bin .gtr (.t 22) (.d (.int .i64 1048576))) [0]]) (.cond (.t 23) (.seq (.reg false [oo_ 24 (.load true 3 (.t 6)) [],on_ (.store 3 (.t 8) (.t 24)) [0,0],oo_ 9 (.mv (.d (.int
 .i64 2))) [1,0,1]]) .ret) .skip)) (.seq (.reg false [oo_ 25 (.load true 3 (.t 6)) [],oo_ 11 (.new 258 [(.int .i64 0),(.int .i64 0),(.bool false)]) [],on_ (.store 3 (.t 11) (.t 25)) [1,0,0,1]]) (.seq (.seq (.reg false
 [om_ 26 3 [],oo_ 27 (.mm true [(.d (.int .i64 0)),(.t 26)]) [0],oo_ 28 (.mv (.d (.int .i64 0))) []]) (.block 0 (.loop (.seq (.reg false [oo_ 29 (.bin .lss (.t 28) (.t 27)) []]) (.seq (.cond (.t 29) .skip (.exit 0))
 (.seq (.block 1 (.seq (.reg false [oo_ 31 (.load true 2 (.t 4)) [],om_ 32 1 [],oo_ 33 (.load true 3 (.t 11)) [],oo_ 34 (.call 225 [(.t 31),(.t 32),(.t 33)]) [0,1,2],om_ 30 34 [3],oo_ 35 (.ext (.t 30) 0) [4],oo_ 36 (.ext
 (.t 30) 1) [4],oo_ 12 (.new 258 [(.int .i64 0),(.int .i64 0),(.bool false)]) [],on_ (.store 3 (.t 12) (.t 35)) [7,5,3,0,1,2,3,4,5,7],om_ 13 36 [6,8,0,1,2,3,4,5,6,7,8]]) (.seq (.seq (.reg false [om_ 37 13 [],oo_ 38 (.bin
 .neq (.t 37) (.d (.int .i64 0))) [0]]) (.cond (.t 38) (.seq (.reg false [oo_ 39 (.load true 3 (.t 6)) [],om_ 40 13 [],on_ (.store 3 (.t 8) (.t 39)) [0,0],om_ 9 40 [1,2,0,1,2]]) .ret) .skip)) (.reg false [oo_ 41 (.load
 true 3 (.t 12)) [],on_ (.store 3 (.t 11) (.t 41)) [0,0]])))) (.reg false [oo_ 42 (.bin .add (.t 28) (.d (.int .i64 1))) [],om_ 28 42 [0]]))))))) (.seq (.reg false [oo_ 43 (.load true 3 (.t 11)) [],on_ (.store 3 (.t 8)
 (.t 43)) [0,0],oo_ 9 (.mv (.d (.int .i64 0))) [1,0,1]]) .ret))))))
theorem o_en : fnOf Tryz.prog o_el = some (o_em, [.cell 8 true 3, .t 9], 44, false) := by kernel_rfl

abbrev o_eo : FuncId := 212
def o_ep : C := (.seq (.reg false [oo_ 1 (.box 258 (.t 0)) [],oo_ 2 (.new 211 [(.int .i64 0),(.int .i64 0),(.bool false)]) []]) (.seq (.reg false [oo_ 3 (.fa 0 (.t 1)) [],oo_ 4 (.load false 1 (.t 3)) [0],oo_ 5 (.fa 1 (.t 1)) [],oo_ 6
 (.load false 1 (.t 5)) [2],oo_ 7 (.fa 2 (.t 1)) [],oo_ 8 (.load false 1 (.t 7)) [4],oo_ 9 (.build [(.int .i64 0),(.int .i64 0),(.bool false)] [(0,1,(.t 4)),(1,1,(.t 6)),(2,1,(.t 8))]) [1,3,5],on_ (.store 3 (.t 2) (.t
 9)) [6,0,1,2,3,4,5,6]]) .ret))
theorem o_eq : fnOf Tryz.prog o_eo = some (o_ep, [.cell 2 true 3], 10, false) := by kernel_rfl

abbrev o_er : FuncId := 213
def o_es : C := (.seq (.reg false [oo_ 1 (.box 211 (.t 0)) [],oo_ 2 (.new 59 [(.int .i64 0),(.bool false)]) []]) (.seq (.reg false [oo_ 3 (.fa 0 (.t 1)) [],oo_ 4 (.load false 1 (.t 3)) [0],oo_ 5 (.fa 2 (.t 1)) [],oo_ 6 (.load false 1
 (.t 5)) [2],oo_ 7 (.build [(.int .i64 0),(.bool false)] [(0,1,(.t 4)),(1,1,(.t 6))]) [1,3],on_ (.store 2 (.t 2) (.t 7)) [4,0,1,2,3,4]]) .ret))
theorem o_et : fnOf Tryz.prog o_er = some (o_es, [.cell 2 true 2], 8, false) := by kernel_rfl

abbrev o_eu : FuncId := 214
def o_ev : C := (.seq (.reg false [oo_ 1 (.box 59 (.t 0)) [],oo_ 2 (.new 211 [(.int .i64 0),(.int .i64 0),(.bool false)]) []]) (.seq (.reg false [oo_ 3 (.fa 0 (.t 1)) [],oo_ 4 (.load false 1 (.t 3)) [0],oo_ 5 (.fa 1 (.t 1)) [],oo_ 6
 (.load false 1 (.t 5)) [2],oo_ 7 (.build [(.int .i64 0),(.int .i64 0),(.bool false)] [(0,1,(.t 4)),(2,1,(.t 6))]) [1,3],on_ (.store 3 (.t 2) (.t 7)) [4,0,1,2,3,4]]) .ret))
theorem o_ew : fnOf Tryz.prog o_eu = some (o_ev, [.cell 2 true 3], 8, false) := by kernel_rfl

abbrev o_ex : FuncId := 215
def o_ey : C := (.seq (.reg false [oo_ 2 (.box 254 (.t 0)) [],oo_ 4 (.mv (.d (.int .i64 0))) []]) (.seq (.seq (.reg false [oo_ 8 (.load true 2 (.t 2)) [],oo_ 9 (.call 191 [(.t 8)]) [0],om_ 5 9 [1,1,0,1]]) (.seq (.reg false [om_ 10 5
 [],oo_ 11 (.bin .neq (.t 10) (.d (.int .i64 0))) [0]]) (.cond (.t 11) (.seq (.reg false [om_ 12 5 [],om_ 4 12 [0,0]]) .ret) .skip))) (.seq (.seq (.reg false [om_ 13 1 [],oo_ 14 (.len (.t 13)) [0],oo_ 15 (.mv (.d (.int
 .i64 0))) []]) (.block 0 (.loop (.seq (.reg false [oo_ 16 (.bin .lss (.t 15) (.t 14)) []]) (.seq (.cond (.t 16) .skip (.exit 0)) (.seq (.block 1 (.seq (.reg false [oo_ 17 (.ix 3 (.t 13) (.t 15)) [],oo_ 18 (.load true 3
 (.t 17)) [0],oo_ 7 (.new 258 [(.int .i64 0),(.int .i64 0),(.bool false)]) [],on_ (.store 3 (.t 7) (.t 18)) [2,1,0,1,2]]) (.seq (.reg false [oo_ 19 (.load true 2 (.t 2)) [],oo_ 20 (.load true 3 (.t 7)) [],oo_ 21 (.call
 217 [(.t 19),(.t 20)]) [0,1],oo_ 22 (.un .not (.t 21)) [2]]) (.cond (.t 22) (.seq (.reg false [oo_ 4 (.mv (.d (.int .i64 2))) []]) .ret) .skip)))) (.reg false [oo_ 23 (.bin .add (.t 15) (.d (.int .i64 1))) [],om_ 15 23
 [0]]))))))) (.seq (.reg false [oo_ 4 (.mv (.d (.int .i64 0))) []]) .ret))))
theorem o_ez : fnOf Tryz.prog o_ex = some (o_ey, [.t 4], 24, false) := by kernel_rfl

abbrev o_f0 : FuncId := 216
def o_f1 : C := (.seq (.reg false [oo_ 2 (.box 25 (.t 0)) [],oo_ 4 (.new 25 [.nilsl]) [],oo_ 5 (.mv (.d (.int .i64 0))) []]) (.seq (.seq (.reg false [om_ 6 1 [],oo_ 7 (.bin .lss (.t 6) (.d (.int .i64 0))) [0],om_ 8 7 [1],og_ 9 (.mv (.t
 1)) 8 false [2],og_ 10 (.bin .gtr (.t 9) (.d (.int .i64 8192))) 8 false [3,2],oo_ 11 (.pick (.t 8) (.d (.bool true)) (.t 10)) [2,4]]) (.cond (.t 11) (.seq (.reg false [oo_ 12 (.build [.nilsl] []) [],on_ (.store 1 (.t 4)
 (.t 12)) [0,0],oo_ 5 (.mv (.d (.int .i64 2))) [1,0,1]]) .ret) .skip)) (.seq (.reg true [om_ 13 1 [],oo_ 14 (.bin .quo (.t 13) (.d (.int .i64 64))) [0],oo_ 15 (.mksl 129 1 8 [(.int .u64 0)] (.t 14) (.t 14)) [1,1],oo_ 16
 (.fa 0 (.t 2)) [],oo_ 17 (.load false 1 (.t 16)) [3],om_ 18 1 [],oo_ 19 (.bin .rem (.t 18) (.d (.int .i64 64))) [5],oo_ 20 (.call 206 [(.t 17),(.t 19)]) [4,6],oo_ 21 (.app 129 1 8 (.t 15) (.t 20)) [2,7,7],oo_ 22 (.call
 109 [(.t 21)]) [8,8],on_ (.store 1 (.t 4) (.t 22)) [9,9,0,1,2,3,4,5,6,7,8,9],oo_ 5 (.mv (.d (.int .i64 0))) [10,0,1,2,3,4,5,6,7,8,9,10]]) .ret)))
theorem o_f2 : fnOf Tryz.prog o_f0 = some (o_f1, [.cell 4 true 1, .t 5], 23, false) := by kernel_rfl

abbrev o_f3 : FuncId := 217
def o_f4 : C := (.seq (.reg false [oo_ 2 (.box 254 (.t 0)) [],oo_ 3 (.box 258 (.t 1)) [],oo_ 4 (.mv (.d (.bool false))) []]) (.seq (.reg false [oo_ 6 (.fa 0 (.t 3)) [],oo_ 7 (.load false 1 (.t 6)) [0],oo_ 8 (.bin .geq (.t 7) (.d (.int
 .i64 0))) [1],om_ 9 8 [2],og_ 10 (.fa 0 (.t 3)) 9 true [3],og_ 11 (.load false 1 (.t 10)) 9 true [4,3],og_ 12 (.fa 0 (.t 2)) 9 true [3],og_ 13 (.load false 1 (.t 12)) 9 true [6,3],og_ 14 (.bin .leq (.t 11) (.t 13)) 9
 true [5,7,3],oo_ 15 (.pick (.t 9) (.t 14) (.d (.bool false))) [3,8],om_ 16 15 [9,3],og_ 17 (.fa 1 (.t 3)) 16 true [10],og_ 18 (.load false 1 (.t 17)) 16 true [11,10],og_ 19 (.bin .geq (.t 18) (.d (.int .i64 0))) 16 true
 [12,10],oo_ 20 (.pick (.t 16) (.t 19) (.d (.bool false))) [10,13],om_ 21 20 [14,10],og_ 22 (.fa 1 (.t 3)) 21 true [15],og_ 23 (.load false 1 (.t 22)) 21 true [16,15],og_ 24 (.fa 1 (.t 2)) 21 true [15],og_ 25 (.load
 false 1 (.t 24)) 21 true [18,15],og_ 26 (.bin .leq (.t 23) (.t 25)) 21 true [17,19,15],oo_ 27 (.pick (.t 21) (.t 26) (.d (.bool false))) [15,20],om_ 5 27 [21,15,0,1,2,3,4,5,6,7,8,9,10,11,12,13,14,15,16,17,18,19,20,21]])
 (.seq (.reg false [oo_ 28 (.load true 2 (.t 2)) [],oo_ 29 (.call 191 [(.t 28)]) [0],oo_ 30 (.bin .eql (.t 29) (.d (.int .i64 0))) [1],om_ 31 30 [2,1],og_ 32 (.mv (.t 5)) 31 true [3],oo_ 33 (.pick (.t 31) (.t 32) (.d
 (.bool false))) [3,4],om_ 34 33 [5,3],og_ 35 (.fa 2 (.t 3)) 34 true [6],og_ 36 (.load false 1 (.t 35)) 34 true [7,6],og_ 37 (.un .not (.t 36)) 34 true [8,6],og_ 38 (.mv (.t 37)) 34 true [9,6,6],og_ 39 (.fa 1 (.t 3)) 38
 false [10],og_ 40 (.load false 1 (.t 39)) 38 false [11,10],og_ 41 (.fa 1 (.t 2)) 38 false [10],og_ 42 (.load false 1 (.t 41)) 38 false [13,10],og_ 43 (.bin .eql (.t 40) (.t 42)) 38 false [12,14,10],og_ 44 (.pick (.t 38)
 (.d (.bool true)) (.t 43)) 34 true [10,15,6],oo_ 45 (.pick (.t 34) (.t 44) (.d (.bool false))) [6,16],om_ 4 45 [17,10,0,1,2,3,4,5,6,7,8,9,10,11,12,13,14,15,16,17]]) .ret)))
theorem o_f5 : fnOf Tryz.prog o_f3 = some (o_f4, [.t 4], 46, false) := by kernel_rfl

abbrev o_f6 : FuncId := 225
def o_f7 : C := (.seq (.reg false [oo_ 3 (.box 254 (.t 0)) [],oo_ 5 (.box 258 (.t 2)) [],oo_ 6 (.new 258 [(.int .i64 0),(.int .i64 0),(.bool false)]) [],oo_ 7 (.mv (.d (.int .i64 0))) []]) (.seq (.reg false [om_ 11 1 [],oo_ 12 (.fa 1
 (.t 5)) [],oo_ 13 (.load false 1 (.t 12)) [1],oo_ 14 (.call 228 [(.t 11),(.t 13)]) [0,2],om_ 10 14 [3],oo_ 15 (.ext (.t 10) 0) [4],oo_ 16 (.ext (.t 10) 1) [4],om_ 8 15 [5,3,0,1,2,3,4,5],om_ 9 16 [6,7,0,1,2,3,4,5,6,7]])
 (.seq (.seq (.reg false [om_ 17 8 [],oo_ 18 (.un .not (.t 17)) [0]]) (.cond (.t 18) (.seq (.reg false [oo_ 19 (.load true 3 (.t 5)) [],om_ 20 9 [],on_ (.store 3 (.t 6) (.t 19)) [0,0],om_ 7 20 [1,2,0,1,2]]) .ret) .skip))
 (.seq (.reg false [oo_ 21 (.fa 0 (.t 5)) [],oo_ 22 (.load false 1 (.t 21)) [0],oo_ 23 (.bin .add (.t 22) (.d (.int .i64 1))) [1],oo_ 24 (.fa 0 (.t 5)) [0,1,2],on_ (.store 1 (.t 24) (.t 23)) [3,2,0,1,2]]) (.seq (.reg
 false [oo_ 25 (.load true 2 (.t 3)) [],om_ 26 1 [],oo_ 27 (.load true 3 (.t 5)) [],oo_ 28 (.call 229 [(.t 25),(.t 26),(.t 27)]) [0,1,2],oo_ 29 (.ext (.t 28) 0) [3],oo_ 30 (.ext (.t 28) 1) [3],on_ (.store 3 (.t 6) (.t
 29)) [4,3,0,1,2,3,4,5],om_ 7 30 [5,6,0,1,2,3,4,5,6]]) .ret)))))
theorem o_f8 : fnOf Tryz.prog o_f6 = some (o_f7, [.cell 6 true 3, .t 7], 31, false) := by kernel_rfl

abbrev o_f9 : FuncId := 228
def o_fa : C := (.seq (.reg false [oo_ 4 (.mv (.d (.bool false))) [],oo_ 5 (.mv (.d (.int .i64 0))) [0]]) (.seq (.seq (.reg false [om_ 8 1 [],oo_ 9 (.mm true [(.d (.int .i64 0)),(.t 8)]) [0],oo_ 10 (.mv (.d (.int .i64 0))) []]) (.block
 0 (.loop (.seq (.reg false [oo_ 11 (.bin .lss (.t 10) (.t 9)) []]) (.seq (.cond (.t 11) .skip (.exit 0)) (.seq (.block 1 (.seq (.reg false [om_ 13 0 [],oo_ 14 (.call 230 [(.t 13)]) [0],om_ 12 14 [1],oo_ 15 (.ext (.t 12)
 0) [2],oo_ 16 (.ext (.t 12) 1) [2],om_ 6 15 [3,1,0,1,2,3],om_ 7 16 [4,5,0,1,2,3,4,5]]) (.seq (.reg false [om_ 17 6 [],oo_ 18 (.un .not (.t 17)) [0]]) (.cond (.t 18) (.seq (.reg false [om_ 19 7 [],oo_ 4 (.mv (.d (.bool
 false))) [],om_ 5 19 [0,1,0,1]]) .ret) .skip)))) (.reg false [oo_ 20 (.bin .add (.t 10) (.d (.int .i64 1))) [],om_ 10 20 [0]]))))))) (.seq (.reg false [oo_ 4 (.mv (.d (.bool true))) [],oo_ 5 (.mv (.d (.int .i64 0)))
 [0,0]]) .ret)))
theorem o_fb : fnOf Tryz.prog o_f9 = some (o_fa, [.t 4, .t 5], 21, false) := by kernel_rfl

abbrev o_fc : FuncId := 229
def o_fd : C := (.seq (.reg false [oo_ 3 (.box 254 (.t 0)) [],oo_ 5 (.box 258 (.t 2)) [],oo_ 6 (.new 258 [(.int .i64 0),(.int .i64 0),(.bool false)]) [],oo_ 7 (.mv (.d (.int .i64 0))) []]) (.seq (.block 0 (.loop (.seq (.seq (.reg false
 [oo_ 10 (.fa 0 (.t 5)) [],oo_ 11 (.load false 1 (.t 10)) [0],oo_ 12 (.fa 0 (.t 3)) [],oo_ 13 (.load false 1 (.t 12)) [2],oo_ 14 (.bin .gtr (.t 11) (.t 13)) [1,3]]) (.cond (.t 14) .skip (.exit 0))) (.block 1 (.seq (.seq
 (.reg false [oo_ 15 (.fa 1 (.t 5)) [],oo_ 16 (.load false 1 (.t 15)) [0],oo_ 17 (.fa 1 (.t 3)) [],oo_ 18 (.load false 1 (.t 17)) [2],oo_ 19 (.bin .eql (.t 16) (.t 18)) [1,3]]) (.cond (.t 19) (.seq (.reg false [oo_ 20
 (.fa 0 (.t 3)) [],oo_ 21 (.load false 1 (.t 20)) [0],oo_ 22 (.fa 0 (.t 5)) [0,1],on_ (.store 1 (.t 22) (.t 21)) [2,1,0,1],oo_ 23 (.fa 2 (.t 5)) [0,1,2,3],on_ (.store 1 (.t 23) (.d (.bool true))) [4,3,0,1,2,3]]) (.exit
 0)) .skip)) (.seq (.reg false [om_ 25 1 [],oo_ 26 (.load true 3 (.t 5)) [],oo_ 27 (.call 231 [(.t 25),(.t 26),(.d (.int .i64 1))]) [0,1],om_ 24 27 [2],oo_ 28 (.ext (.t 24) 0) [3],oo_ 29 (.ext (.t 24) 1) [3],oo_ 8 (.new
 258 [(.int .i64 0),(.int .i64 0),(.bool false)]) [],on_ (.store 3 (.t 8) (.t 28)) [6,4,2,0,1,2,3,4,6],om_ 9 29 [5,7,0,1,2,3,4,5,6,7]]) (.seq (.seq (.reg false [om_ 30 9 [],oo_ 31 (.bin .neq (.t 30) (.d (.int .i64 0)))
 [0]]) (.cond (.t 31) (.seq (.reg false [oo_ 32 (.load true 3 (.t 5)) [],om_ 33 9 [],on_ (.store 3 (.t 6) (.t 32)) [0,0],om_ 7 33 [1,2,0,1,2]]) .ret) .skip)) (.reg false [oo_ 34 (.load true 3 (.t 8)) [],on_ (.store 3 (.t
 5) (.t 34)) [0,0]])))))))) (.seq (.reg false [oo_ 35 (.load true 3 (.t 5)) [],on_ (.store 3 (.t 6) (.t 35)) [0,0],oo_ 7 (.mv (.d (.int .i64 0))) [1,0,1]]) .ret)))
theorem o_fe : fnOf Tryz.prog o_fc = some (o_fd, [.cell 6 true 3, .t 7], 36, false) := by kernel_rfl

abbrev o_ff : FuncId := 230
def o_fg : C := (.seq (.reg false [oo_ 2 (.mv (.d (.bool false))) [],oo_ 3 (.mv (.d (.int .i64 0))) [0]]) (.seq (.seq (.reg true [om_ 4 0 [],oo_ 5 (.chk (.t 4)) [0],oo_ 6 (.fa 0 (.t 5)) [1],oo_ 7 (.fa 1 (.t 6)) [2],oo_ 8 (.load false 1
 (.t 7)) [3],om_ 9 8 [4],og_ 10 (.mv (.t 0)) 9 false [5],og_ 11 (.chk (.t 10)) 9 false [6,5],og_ 12 (.fa 0 (.t 11)) 9 false [7,5],og_ 13 (.fa 0 (.t 12)) 9 false [8,5],og_ 14 (.load false 1 (.t 13)) 9 false [9,5],og_ 15
 (.mv (.t 0)) 9 false [5],og_ 16 (.chk (.t 15)) 9 false [11,5],og_ 17 (.fa 2 (.t 16)) 9 false [12,5],og_ 18 (.load false 1 (.t 17)) 9 false [13,5],og_ 19 (.len (.t 18)) 9 false [14,5],og_ 20 (.bin .eql (.t 14) (.t 19)) 9
 false [10,15,5],oo_ 21 (.pick (.t 9) (.d (.bool true)) (.t 20)) [5,16]]) (.cond (.t 21) (.seq (.reg false [om_ 22 0 [],oo_ 23 (.chk (.t 22)) [0,0],oo_ 24 (.fa 0 (.t 23)) [1,0],oo_ 25 (.fa 1 (.t 24)) [2,0],on_ (.store 1
 (.t 25) (.d (.bool true))) [3,0]]) (.seq (.reg false [oo_ 2 (.mv (.d (.bool false))) [],oo_ 3 (.mv (.d (.int .i64 8))) [0,0]]) .ret)) .skip)) (.seq (.reg false [om_ 26 0 [],oo_ 27 (.chk (.t 26)) [0],oo_ 28 (.fa 0 (.t
 27)) [1],oo_ 29 (.fa 0 (.t 28)) [2],oo_ 30 (.load false 1 (.t 29)) [3],oo_ 31 (.bin .add (.t 30) (.d (.int .i64 1))) [4],oo_ 32 (.chk (.t 26)) [0,0,1,2,3,4,5],oo_ 33 (.fa 0 (.t 32)) [6,0,1,2,3,4,5],oo_ 34 (.fa 0 (.t
 33)) [7,0,1,2,3,4,5],on_ (.store 1 (.t 34) (.t 31)) [8,5,0,1,2,3,4,5]]) (.seq (.reg true [om_ 35 0 [],oo_ 36 (.chk (.t 35)) [0],oo_ 37 (.fa 2 (.t 36)) [1],oo_ 38 (.load false 1 (.t 37)) [2],om_ 39 0 [],oo_ 40 (.chk (.t
 39)) [4],oo_ 41 (.fa 0 (.t 40)) [5],oo_ 42 (.fa 0 (.t 41)) [6],oo_ 43 (.load false 1 (.t 42)) [7],oo_ 44 (.bin .sub (.t 43) (.d (.int .i64 1))) [8],oo_ 45 (.ix 1 (.t 38) (.t 44)) [3,9],oo_ 46 (.load false 1 (.t 45))
 [10],om_ 2 46 [11,0,1,2,3,4,5,6,7,8,9,10,11],oo_ 3 (.mv (.d (.int .i64 0))) [12,0,1,2,3,4,5,6,7,8,9,10,11,12]]) .ret))))
theorem o_fh : fnOf Tryz.prog o_ff = some (o_fg, [.t 2, .t 3], 47, false) := by kernel_rfl

abbrev o_fi : FuncId := 231
def o_fj : C := (.seq (.reg false [oo_ 4 (.box 258 (.t 1)) [],oo_ 6 (.new 258 [(.int .i64 0),(.int .i64 0),(.bool false)]) [],oo_ 7 (.mv (.d (.int .i64 0))) []]) (.seq (.seq (.reg false [om_ 10 2 [],oo_ 11 (.mm true [(.d (.int .i64
 0)),(.t 10)]) [0],oo_ 12 (.mv (.d (.int .i64 0))) []]) (.block 0 (.loop (.seq (.reg false [oo_ 13 (.bin .lss (.t 12) (.t 11)) []]) (.seq (.cond (.t 13) .skip (.exit 0)) (.seq (.block 1 (.seq (.reg false [om_ 15 0 [],oo_
 16 (.fa 0 (.t 4)) [],oo_ 17 (.load false 1 (.t 16)) [1],oo_ 18 (.call 232 [(.t 15),(.t 17)]) [0,2],om_ 14 18 [3],oo_ 19 (.ext (.t 14) 0) [4],oo_ 20 (.ext (.t 14) 1) [4],om_ 8 19 [5,3,0,1,2,3,4,5],om_ 9 20
 [6,7,0,1,2,3,4,5,6,7]]) (.seq (.seq (.reg false [om_ 21 9 [],oo_ 22 (.bin .neq (.t 21) (.d (.int .i64 0))) [0]]) (.cond (.t 22) (.seq (.reg false [oo_ 23 (.load true 3 (.t 4)) [],om_ 24 9 [],on_ (.store 3 (.t 6) (.t
 23)) [0,0],om_ 7 24 [1,2,0,1,2]]) .ret) .skip)) (.seq (.reg false [om_ 25 8 [],oo_ 26 (.fa 0 (.t 4)) [0],on_ (.store 1 (.t 26) (.t 25)) [1,0,0]]) (.reg false [oo_ 27 (.fa 1 (.t 4)) [],oo_ 28 (.load false 1 (.t 27))
 [0],oo_ 29 (.bin .add (.t 28) (.d (.int .i64 1))) [1],oo_ 30 (.fa 1 (.t 4)) [0,1,2],on_ (.store 1 (.t 30) (.t 29)) [3,2,0,1,2]]))))) (.reg false [oo_ 31 (.bin .add (.t 12) (.d (.int .i64 1))) [],om_ 12 31 [0]])))))))
 (.seq (.reg false [oo_ 32 (.load true 3 (.t 4)) [],on_ (.store 3 (.t 6) (.t 32)) [0,0],oo_ 7 (.mv (.d (.int .i64 0))) [1,0,1]]) .ret)))
theorem o_fk : fnOf Tryz.prog o_fi = some (o_fj, [.cell 6 true 3, .t 7], 33, false) := by kernel_rfl

abbrev o_fl : FuncId := 232
def o_fm : C := (.seq (.reg false [oo_ 4 (.mv (.d (.int .i64 0))) [],oo_ 5 (.mv (.d (.int .i64 0))) [0]]) (.seq (.reg false [oo_ 6 (.mv (.d (.int .i64 0))) []]) (.seq (.seq (.reg false [om_ 9 1 [],oo_ 10 (.mm true [(.d (.int .i64
 0)),(.t 9)]) [0],oo_ 11 (.mv (.d (.int .i64 0))) []]) (.block 0 (.loop (.seq (.reg false [oo_ 12 (.bin .lss (.t 11) (.t 10)) []]) (.seq (.cond (.t 12) .skip (.exit 0)) (.seq (.block 1 (.seq (.reg false [om_ 14 0 [],oo_
 15 (.call 230 [(.t 14)]) [0],om_ 13 15 [1],oo_ 16 (.ext (.t 13) 0) [2],oo_ 17 (.ext (.t 13) 1) [2],om_ 7 16 [3,1,0,1,2,3],om_ 8 17 [4,5,0,1,2,3,4,5]]) (.seq (.seq (.reg false [om_ 18 8 [],oo_ 19 (.bin .neq (.t 18) (.d
 (.int .i64 0))) [0]]) (.cond (.t 19) (.seq (.reg false [om_ 20 8 [],oo_ 4 (.mv (.d (.int .i64 0))) [],om_ 5 20 [0,1,0,1]]) .ret) .skip)) (.seq (.reg false [om_ 21 7 []]) (.cond (.t 21) (.reg false [om_ 22 6 [],oo_ 23
 (.bin .add (.t 22) (.d (.int .i64 1))) [0],om_ 6 23 [1,0,1]]) .skip))))) (.reg false [oo_ 24 (.bin .add (.t 11) (.d (.int .i64 1))) [],om_ 11 24 [0]]))))))) (.seq (.reg false [om_ 25 6 [],om_ 4 25 [0,0],oo_ 5 (.mv (.d
 (.int .i64 0))) [1,0,1]]) .ret))))
theorem o_fn : fnOf Tryz.prog o_fl = some (o_fm, [.t 4, .t 5], 26, false) := by kernel_rfl

abbrev o_fo : FuncId := 252
def o_fp : C := (.seq (.reg false [oo_ 2 (.mv (.d (.bool false))) []]) (.seq (.reg false [om_ 3 0 [],oo_ 4 (.call 10 [(.t 3)]) [0],om_ 2 4 [1,1,0,1]]) .ret))
theorem o_fq : fnOf Tryz.prog o_fo = some (o_fp, [.t 2], 5, false) := by kernel_rfl

abbrev o_fr : FuncId := 254
def o_fs : C := (.seq (.reg false [oo_ 6 (.mv (.d (.bool false))) [],oo_ 7 (.mv (.d (.int .i64 0))) [0]]) (.seq (.reg false [om_ 8 1 [],om_ 9 0 [],om_ 10 2 [],oo_ 11 (.call 257 [(.t 8),(.t 9),(.t 10)]) [0,1,2],oo_ 12 (.ext (.t 11) 0)
 [3],oo_ 13 (.ext (.t 11) 1) [3],om_ 6 12 [4,3,0,1,2,3,4,5],om_ 7 13 [5,6,0,1,2,3,4,5,6]]) .ret))
theorem o_ft : fnOf Tryz.prog o_fr = some (o_fs, [.t 6, .t 7], 14, false) := by kernel_rfl

abbrev o_fu : FuncId := 257
def o_fv : C := (.seq (.reg false [oo_ 6 (.mv (.d (.bool false))) [],oo_ 7 (.mv (.d (.int .i64 0))) [0]]) (.seq (.seq (.reg false [om_ 9 1 [],om_ 10 2 [],oo_ 11 (.bsl 3 1 1 [(.int .i64 0)] [(0,1,(.t 10))]) [1],oo_ 12 (.call 42 [(.t
 9),(.t 11)]) [0,2],om_ 8 12 [3,3,0,1,2,3]]) (.seq (.reg false [om_ 13 8 [],oo_ 14 (.bin .neq (.t 13) (.d (.int .i64 0))) [0]]) (.cond (.t 14) (.seq (.reg false [om_ 15 8 [],oo_ 6 (.mv (.d (.bool false))) [],om_ 7 15
 [0,1,0,1]]) .ret) .skip))) (.seq (.reg false [om_ 16 0 [],om_ 17 1 [],om_ 18 2 [],oo_ 19 (.call 258 [(.t 16),(.t 17),(.t 18)]) [0,1,2],oo_ 20 (.ext (.t 19) 0) [3],oo_ 21 (.ext (.t 19) 1) [3],om_ 6 20
 [4,3,0,1,2,3,4,5],om_ 7 21 [5,6,0,1,2,3,4,5,6]]) .ret)))
theorem o_fw : fnOf Tryz.prog o_fu = some (o_fv, [.t 6, .t 7], 22, false) := by kernel_rfl

abbrev o_fx : FuncId := 258
def o_fy : C := (.seq (.reg false [oo_ 6 (.mv (.d (.bool false))) [],oo_ 7 (.mv (.d (.int .i64 0))) [0]]) (.seq (.reg false [om_ 8 0 [],om_ 9 1 [],oo_ 10 (.conv .u64 (.t 9)) [1],oo_ 11 (.bsl 129 1 1 [(.int .u64 0)] [(0,1,(.t 10))])
 [2],oo_ 12 (.call 107 [(.t 11)]) [3],om_ 13 1 [],oo_ 14 (.bin .add (.t 13) (.d (.int .i64 1))) [5],oo_ 15 (.conv .u64 (.t 14)) [6],oo_ 16 (.bsl 129 1 1 [(.int .u64 0)] [(0,1,(.t 15))]) [7],oo_ 17 (.call 107 [(.t 16)])
 [8,4],om_ 18 2 [],oo_ 19 (.call 259 [(.t 8),(.t 12),(.t 17),(.t 18)]) [0,4,9,10,9],oo_ 20 (.ext (.t 19) 0) [11],oo_ 21 (.ext (.t 19) 1) [11],om_ 6 20 [12,11,0,1,2,3,4,5,6,7,8,9,10,11,12,13],om_ 7 21
 [13,14,0,1,2,3,4,5,6,7,8,9,10,11,12,13,14]]) .ret))
theorem o_fz : fnOf Tryz.prog o_fx = some (o_fy, [.t 6, .t 7], 22, false) := by kernel_rfl

abbrev o_g0 : FuncId := 259
def o_g1 : C := (.seq (.reg false [oo_ 5 (.box 25 (.t 1)) [],oo_ 6 (.box 25 (.t 2)) [],oo_ 8 (.mv (.d (.bool false))) [],oo_ 9 (.mv (.d (.int .i64 0))) [2]]) (.seq (.seq (.reg false [oo_ 12 (.load true 1 (.t 5)) [],oo_ 13 (.load true 1
 (.t 6)) [],oo_ 14 (.call 260 [(.t 12),(.t 13)]) [0,1],oo_ 15 (.un .not (.t 14)) [2]]) (.cond (.t 15) (.seq (.reg false [oo_ 8 (.mv (.d (.bool false))) [],oo_ 9 (.mv (.d (.int .i64 2))) [0,0]]) .ret) .skip)) (.seq (.seq
 (.reg false [om_ 16 3 [],oo_ 17 (.mm true [(.d (.int .i64 0)),(.t 16)]) [0],oo_ 18 (.mv (.d (.int .i64 0))) []]) (.block 0 (.loop (.seq (.reg false [oo_ 19 (.bin .lss (.t 18) (.t 17)) []]) (.seq (.cond (.t 19) .skip
 (.exit 0)) (.seq (.block 1 (.seq (.reg false [om_ 21 0 [],oo_ 22 (.load true 1 (.t 5)) [],oo_ 23 (.load true 1 (.t 6)) [],oo_ 24 (.call 261 [(.t 21),(.t 22),(.t 23)]) [0,1,2],om_ 20 24 [3],oo_ 25 (.ext (.t 20) 0)
 [4],oo_ 26 (.ext (.t 20) 1) [4],om_ 10 25 [5,3,0,1,2,3,4,5],om_ 11 26 [6,7,0,1,2,3,4,5,6,7]]) (.seq (.reg false [om_ 27 10 [],oo_ 28 (.un .not (.t 27)) [0]]) (.cond (.t 28) (.seq (.reg false [om_ 29 11 [],oo_ 8 (.mv (.d
 (.bool false))) [],om_ 9 29 [0,1,0,1]]) .ret) .skip)))) (.reg false [oo_ 30 (.bin .add (.t 18) (.d (.int .i64 1))) [],om_ 18 30 [0]]))))))) (.seq (.reg false [oo_ 8 (.mv (.d (.bool true))) [],oo_ 9 (.mv (.d (.int .i64
 0))) [0,0]]) .ret))))
theorem o_g2 : fnOf Tryz.prog o_g0 = some (o_g1, [.t 8, .t 9], 31, false) := by kernel_rfl

abbrev o_g3 : FuncId := 260
def o_g4 : C := (.seq (.reg false [oo_ 2 (.box 25 (.t 0)) [],oo_ 3 (.box 25 (.t 1)) [],oo_ 4 (.mv (.d (.bool false))) []]) (.seq (.reg false [oo_ 5 (.load true 1 (.t 3)) [],oo_ 6 (.call 105 [(.t 5)]) [0],oo_ 7 (.un .not (.t 6)) [1],om_
 8 7 [2,1],og_ 9 (.load true 1 (.t 2)) 8 true [3],og_ 10 (.load true 1 (.t 3)) 8 true [3],og_ 11 (.call 112 [(.t 9),(.t 10)]) 8 true [4,5,3,3],og_ 12 (.bin .leq (.t 11) (.d (.int .i64 0))) 8 true [6,3],oo_ 13 (.pick (.t
 8) (.t 12) (.d (.bool false))) [3,7],om_ 4 13 [8,6,0,1,2,3,4,5,6,7,8]]) .ret))
theorem o_g5 : fnOf Tryz.prog o_g3 = some (o_g4, [.t 4], 14, false) := by kernel_rfl

abbrev o_g6 : FuncId := 261
def o_g7 : C := (.seq (.reg false [oo_ 4 (.box 25 (.t 1)) [],oo_ 5 (.box 25 (.t 2)) [],oo_ 6 (.mv (.d (.bool false))) [],oo_ 7 (.mv (.d (.int .i64 0))) [2]]) (.seq (.block 0 (.seq (.reg false [oo_ 15 (.load true 1 (.t 4)) [],oo_ 16
 (.load true 1 (.t 5)) [],oo_ 17 (.call 260 [(.t 15),(.t 16)]) [0,1],oo_ 18 (.un .not (.t 17)) [2],om_ 14 18 [3,2]]) (.cond (.t 14) (.seq (.reg false [oo_ 6 (.mv (.d (.bool false))) [],oo_ 7 (.mv (.d (.int .i64 2)))
 [0,0]]) .ret) (.seq (.reg false [oo_ 20 (.load true 1 (.t 4)) [],oo_ 21 (.call 105 [(.t 20)]) [0],om_ 19 21 [1,1]]) (.cond (.t 19) (.seq (.reg false [oo_ 6 (.mv (.d (.bool false))) [],oo_ 7 (.mv (.d (.int .i64 0)))
 [0,0]]) .ret) .skip))))) (.seq (.seq (.reg false [oo_ 22 (.load true 1 (.t 4)) [],oo_ 8 (.new 25 [.nilsl]) [],on_ (.store 1 (.t 8) (.t 22)) [1,0,0,1]]) (.block 1 (.loop (.seq (.seq (.reg false [oo_ 23 (.load true 1 (.t
 8)) [],oo_ 24 (.load true 1 (.t 5)) [],oo_ 25 (.call 112 [(.t 23),(.t 24)]) [0,1],oo_ 26 (.bin .lss (.t 25) (.d (.int .i64 0))) [2]]) (.cond (.t 26) .skip (.exit 1))) (.seq (.block 2 (.seq (.reg false [om_ 28 0 [],oo_
 29 (.call 230 [(.t 28)]) [0],om_ 27 29 [1],oo_ 30 (.ext (.t 27) 0) [2],oo_ 31 (.ext (.t 27) 1) [2],om_ 9 30 [3,1,0,1,2,3],om_ 10 31 [4,5,0,1,2,3,4,5]]) (.seq (.seq (.reg false [om_ 32 10 [],oo_ 33 (.bin .neq (.t 32) (.d
 (.int .i64 0))) [0]]) (.cond (.t 33) (.seq (.reg false [om_ 34 10 [],oo_ 6 (.mv (.d (.bool false))) [],om_ 7 34 [0,1,0,1]]) .ret) .skip)) (.seq (.reg false [oo_ 35 (.load true 1 (.t 8)) [],oo_ 36 (.load true 1 (.t 8))
 [],oo_ 37 (.call 106 [(.t 35),(.t 36)]) [0,1],on_ (.store 1 (.t 8) (.t 37)) [2,2,0,1,2]]) (.seq (.reg false [oo_ 39 (.load true 1 (.t 8)) [],oo_ 40 (.load true 1 (.t 5)) [],oo_ 41 (.call 115 [(.t 39),(.t 40)]) [0,1],om_
 38 41 [2],oo_ 42 (.ext (.t 38) 0) [3],oo_ 43 (.ext (.t 38) 1) [3],oo_ 11 (.new 25 [.nilsl]) [],on_ (.store 1 (.t 11) (.t 42)) [6,4,2,0,1,2,3,4,6],om_ 12 43 [5,7,0,1,2,3,4,5,6,7]]) (.seq (.reg false [om_ 44 12 [],oo_ 45
 (.bin .eql (.t 44) (.d (.int .i64 0))) [0],om_ 13 45 [1,0,1]]) (.seq (.seq (.reg false [om_ 46 13 []]) (.cond (.t 46) (.reg false [oo_ 47 (.load true 1 (.t 11)) [],on_ (.store 1 (.t 8) (.t 47)) [0,0]]) .skip)) (.seq
 (.reg false [om_ 48 9 [],om_ 49 13 [],oo_ 50 (.beq true (.t 48) (.t 49)) [0,1],om_ 51 50 [2],og_ 52 (.load true 1 (.t 8)) 51 false [3],og_ 53 (.call 105 [(.t 52)]) 51 false [4,3,3],oo_ 54 (.pick (.t 51) (.d (.bool
 true)) (.t 53)) [3,5]]) (.cond (.t 54) (.seq (.reg false [om_ 55 13 [],om_ 56 55 [0],og_ 57 (.mv (.t 9)) 56 true [1],og_ 58 (.un .not (.t 57)) 56 true [2,1],oo_ 59 (.pick (.t 56) (.t 58) (.d (.bool false))) [1,3],om_ 6
 59 [4,1,0,1,2,3,4],oo_ 7 (.mv (.d (.int .i64 0))) [5,0,1,2,3,4,5]]) .ret) .skip))))))))) (.seq (.reg false [oo_ 60 (.load true 1 (.t 8)) []]) (.reg false [oo_ 8 (.new 25 [.nilsl]) [],on_ (.store 1 (.t 8) (.t 60))
 [0,0]]))))))) (.seq (.reg false [oo_ 6 (.mv (.d (.bool true))) [],oo_ 7 (.mv (.d (.int .i64 0))) [0,0]]) .ret))))
theorem o_g8 : fnOf Tryz.prog o_g6 = some (o_g7, [.t 6, .t 7], 61, false) := by kernel_rfl

abbrev o_g9 : FuncId := 264
def o_ga : C := (.seq (.reg false [oo_ 2 (.mv (.d (.bool false))) []]) (.seq (.reg false [om_ 3 0 [],oo_ 4 (.call 269 [(.t 3)]) [0],om_ 2 4 [1,1,0,1]]) .ret))
theorem o_gb : fnOf Tryz.prog o_g9 = some (o_ga, [.t 2], 5, false) := by kernel_rfl

abbrev o_gc : FuncId := 266
def o_gd : C := (.seq (.reg false [oo_ 6 (.mv (.d (.bool false))) [],oo_ 7 (.mv (.d (.int .i64 0))) [0]]) (.seq (.reg false [om_ 8 1 [],om_ 9 0 [],om_ 10 2 [],oo_ 11 (.call 270 [(.t 8),(.t 9),(.t 10)]) [0,1,2],oo_ 12 (.ext (.t 11) 0)
 [3],oo_ 13 (.ext (.t 11) 1) [3],om_ 6 12 [4,3,0,1,2,3,4,5],om_ 7 13 [5,6,0,1,2,3,4,5,6]]) .ret))
theorem o_ge : fnOf Tryz.prog o_gc = some (o_gd, [.t 6, .t 7], 14, false) := by kernel_rfl

abbrev o_gf : FuncId := 267
def o_gg : C := (.seq (.reg false [oo_ 4 (.new 29 [.nilsl,(.bool false),.nilsl]) [],oo_ 5 (.mv (.d (.int .i64 0))) []]) (.seq (.reg false [om_ 9 0 [],om_ 10 1 [],oo_ 11 (.call 271 [(.t 9),(.t 10)]) [0,1],om_ 8 11 [2],oo_ 12 (.ext (.t
 8) 0) [3],oo_ 13 (.ext (.t 8) 1) [3],oo_ 6 (.new 25 [.nilsl]) [],on_ (.store 1 (.t 6) (.t 12)) [6,4,2,0,1,2,3,4,6],om_ 7 13 [5,7,0,1,2,3,4,5,6,7]]) (.seq (.reg false [oo_ 14 (.load true 1 (.t 6)) [],oo_ 15 (.call 185
 [(.t 14)]) [0],om_ 16 7 [],on_ (.store 3 (.t 4) (.t 15)) [1,1,0,1],om_ 5 16 [2,3,0,1,2,3]]) .ret)))
theorem o_gh : fnOf Tryz.prog o_gf = some (o_gg, [.cell 4 true 3, .t 5], 17, false) := by kernel_rfl

abbrev o_gi : FuncId := 269
def o_gj : C := (.seq (.reg false [oo_ 2 (.mv (.d (.bool false))) []]) (.seq (.reg false [om_ 3 0 [],oo_ 4 (.bin .geq (.t 3) (.d (.int .i64 0))) [0],om_ 5 4 [1],og_ 6 (.mv (.t 0)) 5 true [2],og_ 7 (.bin .leq (.t 6) (.d (.int .i64 8)))
 5 true [3,2],oo_ 8 (.pick (.t 5) (.t 7) (.d (.bool false))) [2,4],om_ 2 8 [5,2,0,1,2,3,4,5]]) .ret))
theorem o_gk : fnOf Tryz.prog o_gi = some (o_gj, [.t 2], 9, false) := by kernel_rfl

abbrev o_gl : FuncId := 270
def o_gm : C := (.seq (.reg false [oo_ 6 (.mv (.d (.bool false))) [],oo_ 7 (.mv (.d (.int .i64 0))) [0]]) (.seq (.seq (.reg false [om_ 11 1 [],om_ 12 2 [],oo_ 13 (.bsl 3 1 1 [(.int .i64 0)] [(0,1,(.t 12))]) [1],oo_ 14 (.call 272 [(.t
 11),(.t 13)]) [0,2],om_ 8 14 [3,3,0,1,2,3]]) (.seq (.reg false [om_ 15 8 [],oo_ 16 (.bin .neq (.t 15) (.d (.int .i64 0))) [0]]) (.cond (.t 16) (.seq (.reg false [om_ 17 8 [],oo_ 6 (.mv (.d (.bool false))) [],om_ 7 17
 [0,1,0,1]]) .ret) .skip))) (.seq (.reg false [om_ 19 1 [],om_ 20 2 [],oo_ 21 (.call 273 [(.t 19),(.t 20)]) [0,1],om_ 18 21 [2],oo_ 22 (.ext (.t 18) 0) [3],oo_ 23 (.ext (.t 18) 1) [3],om_ 9 22 [4,2,0,1,2,3,4],om_ 10 23
 [5,6,0,1,2,3,4,5,6]]) (.seq (.reg false [om_ 24 0 [],om_ 25 9 [],oo_ 26 (.call 228 [(.t 24),(.t 25)]) [0,1],oo_ 27 (.ext (.t 26) 0) [2],oo_ 28 (.ext (.t 26) 1) [2],om_ 6 27 [3,2,0,1,2,3,4],om_ 7 28 [4,5,0,1,2,3,4,5]])
 .ret))))
theorem o_gn : fnOf Tryz.prog o_gl = some (o_gm, [.t 6, .t 7], 29, false) := by kernel_rfl

abbrev o_go : FuncId := 271
def o_gp : C := (.seq (.reg false [oo_ 4 (.new 25 [.nilsl]) [],oo_ 5 (.mv (.d (.int .i64 0))) []]) (.seq (.seq (.reg false [om_ 11 0 [],om_ 12 1 [],oo_ 13 (.bsl 3 1 1 [(.int .i64 0)] [(0,1,(.t 12))]) [1],oo_ 14 (.call 272 [(.t 11),(.t
 13)]) [0,2],om_ 6 14 [3,3,0,1,2,3]]) (.seq (.reg false [om_ 15 6 [],oo_ 16 (.bin .neq (.t 15) (.d (.int .i64 0))) [0]]) (.cond (.t 16) (.seq (.reg false [oo_ 17 (.build [.nilsl] []) [],om_ 18 6 [],on_ (.store 1 (.t 4)
 (.t 17)) [0,0],om_ 5 18 [1,2,0,1,2]]) .ret) .skip))) (.seq (.reg false [om_ 20 0 [],om_ 21 1 [],oo_ 22 (.call 273 [(.t 20),(.t 21)]) [0,1],om_ 19 22 [2],oo_ 23 (.ext (.t 19) 0) [3],oo_ 24 (.ext (.t 19) 1) [3],om_ 7 23
 [4,2,0,1,2,3,4],om_ 8 24 [5,6,0,1,2,3,4,5,6]]) (.seq (.reg false [om_ 26 0 [],oo_ 27 (.bin .shl (.d (.int .i64 1)) (.t 26)) [0],om_ 28 8 [],oo_ 29 (.bin .add (.t 27) (.t 28)) [1,2],oo_ 30 (.conv .u64 (.t 29)) [3],oo_ 31
 (.bsl 129 1 1 [(.int .u64 0)] [(0,1,(.t 30))]) [4],oo_ 32 (.call 107 [(.t 31)]) [5],om_ 33 7 [],oo_ 34 (.call 216 [(.t 32),(.t 33)]) [6,7,6],om_ 25 34 [8],oo_ 35 (.ext (.t 25) 0) [9],oo_ 36 (.ext (.t 25) 1) [9],oo_ 9
 (.new 25 [.nilsl]) [],on_ (.store 1 (.t 9) (.t 35)) [12,10,8,0,1,2,3,4,5,6,7,8,9,10,12],om_ 10 36 [11,13,0,1,2,3,4,5,6,7,8,9,10,11,12,13]]) (.seq (.reg true [oo_ 37 (.load true 1 (.t 9)) [],om_ 38 0 [],oo_ 39 (.bin .shl
 (.d (.int .u64 1)) (.t 38)) [1],oo_ 40 (.bsl 129 1 1 [(.int .u64 0)] [(0,1,(.t 39))]) [2],oo_ 41 (.call 107 [(.t 40)]) [3],oo_ 42 (.call 115 [(.t 37),(.t 41)]) [0,4,4],oo_ 43 (.ext (.t 42) 0) [5],oo_ 44 (.ext (.t 42) 1)
 [5],on_ (.store 1 (.t 4) (.t 43)) [6,5,0,1,2,3,4,5,6,7],om_ 5 44 [7,8,0,1,2,3,4,5,6,7,8]]) .ret)))))
theorem o_gq : fnOf Tryz.prog o_go = some (o_gp, [.cell 4 true 1, .t 5], 45, false) := by kernel_rfl

abbrev o_gr : FuncId := 272
def o_gs : C := (.seq (.reg false [oo_ 4 (.mv (.d (.int .i64 0))) []]) (.seq (.seq (.reg false [om_ 7 0 [],oo_ 8 (.call 269 [(.t 7)]) [0],oo_ 9 (.un .not (.t 8)) [1]]) (.cond (.t 9) (.seq (.reg false [oo_ 4 (.mv (.d (.int .i64 10)))
 []]) .ret) .skip)) (.seq (.seq (.reg false [om_ 10 1 [],oo_ 11 (.len (.t 10)) [0],oo_ 12 (.mv (.d (.int .i64 0))) []]) (.block 0 (.loop (.seq (.reg false [oo_ 13 (.bin .lss (.t 12) (.t 11)) []]) (.seq (.cond (.t 13)
 .skip (.exit 0)) (.seq (.block 1 (.seq (.reg false [oo_ 14 (.ix 1 (.t 10) (.t 12)) [],oo_ 15 (.load false 1 (.t 14)) [0],om_ 6 15 [1,0,1]]) (.seq (.reg false [om_ 16 6 [],oo_ 17 (.bin .lss (.t 16) (.d (.int .i64 0)))
 [0],om_ 18 17 [1],og_ 19 (.mv (.t 6)) 18 false [2],og_ 20 (.bin .gtr (.t 19) (.d (.int .i64 1023))) 18 false [3,2],oo_ 21 (.pick (.t 18) (.d (.bool true)) (.t 20)) [2,4]]) (.cond (.t 21) (.seq (.reg false [oo_ 4 (.mv
 (.d (.int .i64 2))) []]) .ret) .skip)))) (.reg false [oo_ 22 (.bin .add (.t 12) (.d (.int .i64 1))) [],om_ 12 22 [0]]))))))) (.seq (.reg false [oo_ 4 (.mv (.d (.int .i64 0))) []]) .ret))))
theorem o_gt : fnOf Tryz.prog o_gr = some (o_gs, [.t 4], 23, false) := by kernel_rfl

abbrev o_gu : FuncId := 273
def o_gv : C := (.seq (.reg false [oo_ 4 (.mv (.d (.int .i64 0))) [],oo_ 5 (.mv (.d (.int .i64 0))) [0]]) (.seq (.reg true [om_ 6 1 [],om_ 7 0 [],oo_ 8 (.bin .shr (.t 6) (.t 7)) [0,1],om_ 9 1 [],om_ 10 0 [],oo_ 11 (.bin .shl (.d (.int
 .i64 1)) (.t 10)) [4],oo_ 12 (.bin .sub (.t 11) (.d (.int .i64 1))) [5],oo_ 13 (.bin .and (.t 9) (.t 12)) [3,6],om_ 4 8 [2,0,1,2],om_ 5 13 [7,8,0,1,2,3,4,5,6,7,8]]) .ret))
theorem o_gw : fnOf Tryz.prog o_gu = some (o_gv, [.t 4, .t 5], 14, false) := by kernel_rfl

abbrev o_gx : FuncId := 276
def o_gy : C := (.seq (.reg false [oo_ 2 (.mv (.d (.bool false))) []]) (.seq (.reg false [om_ 3 0 [],oo_ 4 (.call 281 [(.t 3)]) [0],om_ 2 4 [1,1,0,1]]) .ret))
theorem o_gz : fnOf Tryz.prog o_gx = some (o_gy, [.t 2], 5, false) := by kernel_rfl

abbrev o_h0 : FuncId := 278
def o_h1 : C := (.seq (.reg false [oo_ 6 (.mv (.d (.bool false))) [],oo_ 7 (.mv (.d (.int .i64 0))) [0]]) (.seq (.reg false [om_ 8 1 [],om_ 9 0 [],om_ 10 2 [],oo_ 11 (.call 282 [(.t 8),(.t 9),(.t 10)]) [0,1,2],oo_ 12 (.ext (.t 11) 0)
 [3],oo_ 13 (.ext (.t 11) 1) [3],om_ 6 12 [4,3,0,1,2,3,4,5],om_ 7 13 [5,6,0,1,2,3,4,5,6]]) .ret))
theorem o_h2 : fnOf Tryz.prog o_h0 = some (o_h1, [.t 6, .t 7], 14, false) := by kernel_rfl

abbrev o_h3 : FuncId := 281
def o_h4 : C := (.seq (.reg false [oo_ 2 (.mv (.d (.bool false))) []]) (.seq (.reg false [om_ 3 0 [],oo_ 4 (.bin .geq (.t 3) (.d (.int .i64 1))) [0],om_ 5 4 [1],og_ 6 (.mv (.t 0)) 5 true [2],og_ 7 (.bin .leq (.t 6) (.d (.int .i64 5)))
 5 true [3,2],oo_ 8 (.pick (.t 5) (.t 7) (.d (.bool false))) [2,4],om_ 2 8 [5,2,0,1,2,3,4,5]]) .ret))
theorem o_h5 : fnOf Tryz.prog o_h3 = some (o_h4, [.t 2], 9, false) := by kernel_rfl

abbrev o_h6 : FuncId := 282
def o_h7 : C := (.seq (.reg false [oo_ 6 (.mv (.d (.bool false))) [],oo_ 7 (.mv (.d (.int .i64 0))) [0]]) (.seq (.reg false [om_ 11 1 [],om_ 12 2 [],oo_ 13 (.call 283 [(.t 11),(.t 12)]) [0,1],om_ 10 13 [2],oo_ 14 (.ext (.t 10) 0)
 [3],oo_ 15 (.ext (.t 10) 1) [3],oo_ 8 (.new 324 [(.int .i64 0),(.int .i64 0),.nilsl,.nilsl]) [],on_ (.store 4 (.t 8) (.t 14)) [6,4,2,0,1,2,3,4,6],om_ 9 15 [5,7,0,1,2,3,4,5,6,7]]) (.seq (.seq (.reg false [om_ 16 9 [],oo_
 17 (.bin .neq (.t 16) (.d (.int .i64 0))) [0]]) (.cond (.t 17) (.seq (.reg false [om_ 18 9 [],oo_ 6 (.mv (.d (.bool false))) [],om_ 7 18 [0,1,0,1]]) .ret) .skip)) (.seq (.reg false [om_ 19 0 [],oo_ 20 (.fa 1 (.t 8))
 [],oo_ 21 (.load false 1 (.t 20)) [1],oo_ 22 (.call 228 [(.t 19),(.t 21)]) [0,2],oo_ 23 (.ext (.t 22) 0) [3],oo_ 24 (.ext (.t 22) 1) [3],om_ 6 23 [4,3,0,1,2,3,4,5],om_ 7 24 [5,6,0,1,2,3,4,5,6]]) .ret))))
theorem o_h8 : fnOf Tryz.prog o_h6 = some (o_h7, [.t 6, .t 7], 25, false) := by kernel_rfl

abbrev o_h9 : FuncId := 283
def o_ha : C := (.seq (.reg false [oo_ 3 (.box 3 (.t 1)) [],oo_ 4 (.new 324 [(.int .i64 0),(.int .i64 0),.nilsl,.nilsl]) [],oo_ 5 (.mv (.d (.int .i64 0))) []]) (.seq (.block 0 (.seq (.reg false [om_ 10 0 [],oo_ 11 (.call 281 [(.t 10)])
 [0],oo_ 12 (.un .not (.t 11)) [1],om_ 9 12 [2,1]]) (.cond (.t 9) (.seq (.reg false [oo_ 13 (.build [(.int .i64 0),(.int .i64 0),.nilsl,.nilsl] []) [],on_ (.store 4 (.t 4) (.t 13)) [0,0],oo_ 5 (.mv (.d (.int .i64 10)))
 [1,0,1]]) .ret) (.seq (.reg false [oo_ 15 (.load false 1 (.t 3)) [],oo_ 16 (.bin .lss (.t 15) (.d (.int .i64 0))) [0],om_ 17 16 [1],og_ 18 (.load false 1 (.t 3)) 17 false [2],og_ 19 (.bin .gtr (.t 18) (.d (.int .i64
 1023))) 17 false [3,2],oo_ 20 (.pick (.t 17) (.d (.bool true)) (.t 19)) [2,4],om_ 14 20 [5,2]]) (.cond (.t 14) (.seq (.reg false [oo_ 21 (.build [(.int .i64 0),(.int .i64 0),.nilsl,.nilsl] []) [],on_ (.store 4 (.t 4)
 (.t 21)) [0,0],oo_ 5 (.mv (.d (.int .i64 2))) [1,0,1]]) .ret) .skip))))) (.seq (.reg false [oo_ 6 (.new 324 [(.int .i64 0),(.int .i64 0),.nilsl,.nilsl]) []]) (.seq (.seq (.reg false [om_ 22 0 [],oo_ 23 (.call 284 [(.t
 22)]) [0]]) (.block 1 .bad)) (.seq (.reg false [oo_ 30 (.load true 4 (.t 6)) [],on_ (.store 4 (.t 4) (.t 30)) [0,0],oo_ 5 (.mv (.d (.int .i64 0))) [1,0,1]]) .ret)))))
theorem o_hb : fnOf Tryz.prog o_h9 = some (o_ha, [.cell 4 true 4, .t 5], 31, false) := by kernel_rfl

abbrev n_yu_walk : FuncId := 284
def c_yu_walk : C := (.seq (.reg false [oo_ 1 (.box 3 (.t 0)) [],oo_ 2 (.mv (.d .nilfn)) []]) (.seq (.reg false [oo_ 3 (.mkf (.func 285) [(.t 1)]) [],om_ 2 3 [0,0]]) .ret))
theorem r_yu_walk : fnOf Tryz.prog n_yu_walk = some (c_yu_walk, [.t 2], 4, false) := by kernel_rfl

abbrev o_hc : FuncId := 285
def o_hd : C := (.seq (.reg false [oo_ 5 (.load false 1 (.t 1)) [],oo_ 6 (.bin .mul (.d (.int .i64 2)) (.t 5)) [0],oo_ 7 (.bin .shl (.d (.int .u64 1)) (.t 6)) [1],oo_ 8 (.bsl 129 1 1 [(.int .u64 0)] [(0,1,(.t 7))]) [2],oo_ 9 (.call 107
 [(.t 8)]) [3],oo_ 10 (.build [(.int .i64 0),(.int .i64 0),.nilsl,.nilsl] [(3,1,(.t 9))]) [4],oo_ 3 (.new 324 [(.int .i64 0),(.int .i64 0),.nilsl,.nilsl]) [],on_ (.store 4 (.t 3) (.t 10)) [6,5,4,0,1,2,3,4,5,6]]) (.seq
 (.reg false [oo_ 4 (.mv (.d (.int .i64 0))) []]) (.block 0 (.loop (.seq (.seq (.reg false [om_ 11 4 [],oo_ 12 (.bin .leq (.t 11) (.d (.int .i64 1023))) [0]]) (.cond (.t 12) .skip (.exit 0))) (.seq (.block 1 (.seq (.seq
 (.reg false [om_ 15 0 [],om_ 16 4 [],oo_ 17 (.load true 4 (.t 3)) [],oo_ 18 (.callv (.t 15) [(.t 16),(.t 17)]) [0,1,2],oo_ 19 (.un .not (.t 18)) [3]]) (.cond (.t 19) .ret .skip)) (.reg false [oo_ 20 (.load true 4 (.t
 3)) [],oo_ 21 (.load false 1 (.t 1)) [],oo_ 22 (.call 286 [(.t 20),(.t 21)]) [0,1],on_ (.store 4 (.t 3) (.t 22)) [2,2,0,1,2]]))) (.reg false [om_ 13 4 [],oo_ 14 (.bin .add (.t 13) (.d (.int .i64 1))) [0],om_ 4 14
 [1,0,1]])))))))
abbrev o_he : FuncId := 286
def o_hf : C := (.seq (.reg false [oo_ 2 (.box 324 (.t 0)) [],oo_ 4 (.new 324 [(.int .i64 0),(.int .i64 0),.nilsl,.nilsl]) []]) (.seq (.reg true [oo_ 8 (.bsl 129 1 1 [(.int .u64 0)] [(0,1,(.d (.int .u64 1)))]) [],oo_ 9 (.call 107 [(.t
 8)]) [0],oo_ 10 (.fa 1 (.t 2)) [],oo_ 11 (.load false 1 (.t 10)) [2],oo_ 12 (.call 216 [(.t 9),(.t 11)]) [1,3,1],om_ 7 12 [4],oo_ 13 (.ext (.t 7) 0) [5],oo_ 14 (.ext (.t 7) 1) [5],oo_ 5 (.new 25 [.nilsl]) [],on_ (.store
 1 (.t 5) (.t 13)) [8,6,4,0,1,2,3,4,5,6,8],om_ 6 14 [7,9,0,1,2,3,4,5,6,7,8,9]]) (.seq (.reg false [oo_ 15 (.fa 2 (.t 2)) [],oo_ 16 (.load true 1 (.t 15)) [0],oo_ 17 (.load true 1 (.t 5)) [],oo_ 18 (.call 106 [(.t 16),(.t
 17)]) [1,2],oo_ 19 (.fa 2 (.t 2)) [0,1,2,3],on_ (.store 1 (.t 19) (.t 18)) [4,3,3,0,1,2,3]]) (.seq (.seq (.reg false [oo_ 20 (.fa 2 (.t 2)) [],oo_ 21 (.load true 1 (.t 20)) [0],oo_ 22 (.fa 3 (.t 2)) [],oo_ 23 (.load
 true 1 (.t 22)) [2],oo_ 24 (.call 112 [(.t 21),(.t 23)]) [1,3],oo_ 25 (.bin .geq (.t 24) (.d (.int .i64 0))) [4]]) (.cond (.t 25) (.seq (.reg false [oo_ 26 (.fa 0 (.t 2)) [],oo_ 27 (.load false 1 (.t 26)) [0],oo_ 28
 (.bin .add (.t 27) (.d (.int .i64 1))) [1],oo_ 29 (.fa 0 (.t 2)) [0,1,2],on_ (.store 1 (.t 29) (.t 28)) [3,2,0,1,2]]) (.seq (.reg false [om_ 30 1 [],oo_ 31 (.fa 3 (.t 2)) [],oo_ 32 (.load true 1 (.t 31)) [1],oo_ 33
 (.call 287 [(.t 30),(.t 32)]) [0,2],oo_ 34 (.fa 3 (.t 2)) [0,1,2,3],on_ (.store 1 (.t 34) (.t 33)) [4,3,3,0,1,2,3]]) (.reg false [om_ 35 1 [],oo_ 36 (.fa 3 (.t 2)) [],oo_ 37 (.load true 1 (.t 36)) [1],oo_ 38 (.call 288
 [(.t 35),(.t 37)]) [0,2],oo_ 39 (.fa 1 (.t 2)) [0,1,2,3],on_ (.store 1 (.t 39) (.t 38)) [4,3,3,0,1,2,3]]))) .skip)) (.seq (.reg false [oo_ 40 (.load true 4 (.t 2)) [],on_ (.store 4 (.t 4) (.t 40)) [0,0]]) .ret)))))
theorem o_hg : fnOf Tryz.prog o_he = some (o_hf, [.cell 4 true 4], 41, false) := by kernel_rfl

abbrev o_hh : FuncId := 287
def o_hi : C := (.seq (.reg false [oo_ 3 (.box 25 (.t 1)) [],oo_ 4 (.new 25 [.nilsl]) []]) (.seq (.reg false [oo_ 8 (.load true 1 (.t 3)) [],om_ 9 0 [],oo_ 10 (.call 208 [(.t 8),(.t 9)]) [0,1],oo_ 5 (.new 25 [.nilsl]) [],on_ (.store 1
 (.t 5) (.t 10)) [3,2,2,0,1,2,3]]) (.seq (.seq (.reg false [oo_ 12 (.load true 1 (.t 5)) [],om_ 13 0 [],oo_ 14 (.call 216 [(.t 12),(.t 13)]) [0,1],om_ 11 14 [2],oo_ 15 (.ext (.t 11) 0) [3],oo_ 16 (.ext (.t 11) 1) [3],oo_
 6 (.new 25 [.nilsl]) [],on_ (.store 1 (.t 6) (.t 15)) [6,4,2,0,1,2,3,4,6],om_ 7 16 [5,7,0,1,2,3,4,5,6,7]]) (.seq (.reg false [oo_ 17 (.load true 1 (.t 6)) [],oo_ 18 (.load true 1 (.t 3)) [],oo_ 19 (.call 112 [(.t
 17),(.t 18)]) [0,1],oo_ 20 (.bin .lss (.t 19) (.d (.int .i64 0))) [2]]) (.cond (.t 20) (.reg true [oo_ 21 (.load true 1 (.t 5)) [],oo_ 22 (.bsl 129 1 1 [(.int .u64 0)] [(0,1,(.d (.int .u64 1)))]) [],oo_ 23 (.call 107
 [(.t 22)]) [1],oo_ 24 (.call 106 [(.t 21),(.t 23)]) [0,2,2],on_ (.store 1 (.t 5) (.t 24)) [3,3,0,1,2,3]]) .skip))) (.seq (.reg false [oo_ 25 (.load true 1 (.t 3)) [],oo_ 26 (.load true 1 (.t 5)) [],oo_ 27 (.call 106
 [(.t 25),(.t 26)]) [0,1],on_ (.store 1 (.t 4) (.t 27)) [2,2,0,1,2]]) .ret))))
theorem o_hj : fnOf Tryz.prog o_hh = some (o_hi, [.cell 4 true 1], 28, false) := by kernel_rfl

abbrev o_hk : FuncId := 288
def o_hl : C := (.seq (.reg false [oo_ 3 (.box 25 (.t 1)) [],oo_ 4 (.mv (.d (.int .i64 0))) []]) (.seq (.reg false [oo_ 5 (.load true 1 (.t 3)) [],oo_ 6 (.call 156 [(.t 5)]) [0],oo_ 7 (.bin .sub (.t 6) (.d (.int .i64 1))) [1],om_ 8 0
 [],oo_ 9 (.bin .mul (.d (.int .i64 2)) (.t 8)) [3],oo_ 10 (.bin .sub (.t 7) (.t 9)) [2,4],oo_ 11 (.mm true [(.d (.int .i64 0)),(.t 10)]) [5],om_ 4 11 [6,1,0,1,2,3,4,5,6]]) .ret))
theorem o_hm : fnOf Tryz.prog o_hk = some (o_hl, [.t 4], 12, false) := by kernel_rfl

abbrev o_hn : FuncId := 117
theorem o_ho : Tryz.prog.funcs[o_hn]? = some Tryz.f117 := Tryz.func117
abbrev o_hp : FuncId := 167
theorem o_hq : Tryz.prog.funcs[o_hp]? = some Tryz.f167 := Tryz.func167
end
end Go.Proofs.YtdklbnemfelpnaaGreatDoor.Am
namespace Go.Proofs.YtdklbnemfelpnaaGreatDoor.Am
section
def wval : List Nat → Nat
 | [] => 0
 | x :: l => x + 18446744073709551616 * wval l
def small (ws : List Nat) : Prop := ∀ x ∈ ws, x < 18446744073709551616

theorem o_hr : ∀ (a b : List Nat), wval (a ++ b) = wval a + 18446744073709551616 ^ a.length * wval b := by
 intro a
 induction a with
 | nil => intro b; simp [wval]
 | cons x a ih => intro b; simp only [List.cons_append, wval, List.length_cons]; rw [ih, Nat.pow_succ, Nat.mul_add, ← Nat.mul_assoc, Nat.mul_comm 18446744073709551616 (18446744073709551616 ^ a.length)]; omega
theorem o_hs : ∀ n, wval (List.replicate n 0) = 0 := by
 intro n
 induction n with
 | zero => rfl
 | succ n ih => rw [List.replicate_succ, wval, ih]
theorem o_ht : ∀ {ws : List Nat}, small ws → wval ws < 18446744073709551616 ^ ws.length := by
 intro ws
 induction ws with
 | nil => intro _; simp [wval]
 | cons x l ih =>
  intro h
  have h1 := h x (by simp)
  have h2 := ih (fun y hy => h y (by simp [hy]))
  rw [wval, List.length_cons, Nat.pow_succ]
  omega

def trimN (ws : List Nat) : Nat → Nat
 | 0 => 0
 | n + 1 => if ws.getD n 0 = 0 then trimN ws n else n + 1
theorem o_hu (ws : List Nat) (n : Nat) (h : n < ws.length) : ws.take (n + 1) = ws.take n ++ [ws.getD n 0] := by
 rw [List.take_add_one, List.getElem?_eq_getElem h]
 simp [List.getD, List.getElem?_eq_getElem h]
theorem o_hv (ws : List Nat) : ∀ n, n ≤ ws.length → wval (ws.take (trimN ws n)) = wval (ws.take n) := by
 intro n
 induction n with
 | zero => intro _; rfl
 | succ n ih =>
  intro h
  unfold trimN
  split
  ·rename_i h0
   rw [ih (by omega), o_hu _ _ (by omega), o_hr, h0]
   simp [wval]
  ·rfl
def top1 (ws : List Nat) : Prop := ∀ k, ws.length = k + 1 → ws.getD k 0 ≠ 0
theorem o_hw (ws : List Nat) : ∀ n, n ≤ ws.length → top1 (ws.take (trimN ws n)) := by
 intro n
 induction n with
 | zero => intro _ k hk; simp [trimN] at hk
 | succ n ih =>
  intro h
  unfold trimN
  split
  ·exact ih (by omega)
  ·rename_i h0
   intro k hk
   rw [List.length_take, Nat.min_eq_left h] at hk
   obtain rfl : n = k := by omega
   have e : (ws.take (n + 1)).getD n 0 = ws.getD n 0 := by simp [List.getD]
   rw [e]
   exact h0

theorem small.take {ws : List Nat} (h : small ws) (n : Nat) : small (ws.take n) := fun x hx => h x (List.mem_of_mem_take hx)

theorem o_hx {ws : List Nat} (h : small ws) (ht : top1 ws) (h0 : wval ws = 0) : ws = [] := by
 rcases ws.eq_nil_or_concat with rfl | ⟨l, x, rfl⟩
 ·rfl
 ·exfalso
  have := ht l.length (by simp)
  simp at this
  simp [o_hr, wval] at h0
  rcases Nat.mul_eq_zero.1 h0.2 with h | h
  ·exact absurd h (Nat.pos_iff_ne_zero.1 (Nat.pow_pos (by decide)))
  ·exact this h

theorem o_hy : ∀ {a b : List Nat}, small a → small b → top1 a → top1 b → wval a = wval b → a = b := by
 intro a
 induction a with
 | nil => intro b _ hb _ tb h; exact (o_hx hb tb h.symm).symm
 | cons x a ih =>
  intro b ha hb ta tb h
  cases b with
  | nil => exact absurd (o_hx ha ta h) (by simp)
  | cons y b =>
   have h1 := ha x (by simp)
   have h2 := hb y (by simp)
   simp only [wval] at h
   have e : x = y := by omega
   subst e
   have e2 : wval a = wval b := by omega
   have e3 : a = b := ih (fun z hz => ha z (by simp [hz])) (fun z hz => hb z (by simp [hz])) (fun k hk => by have := ta (k + 1) (by simp [hk]); simpa using this) (fun k hk => by have := tb (k + 1) (by simp [hk]); simpa using this) e2
   rw [e3]

def movedL (k : Nat) : Nat → List Nat → List Nat
 | c, [] => [c]
 | c, x :: l => ((x * 2 ^ k) % 18446744073709551616 + c) :: movedL k (x * 2 ^ k / 18446744073709551616) l
theorem o_hz (k : Nat) : ∀ (l : List Nat) (c : Nat), (movedL k c l).length = l.length + 1 := by
 intro l
 induction l with
 | nil => intro c; rfl
 | cons x l ih => intro c; simp [movedL, ih]
theorem o_i0 (k : Nat) : ∀ (l : List Nat) (c : Nat), wval (movedL k c l) = wval l * 2 ^ k + c := by
 intro l
 induction l with
 | nil => intro c; simp [movedL, wval]
 | cons x l ih =>
  intro c
  rw [movedL, wval, ih, wval]
  have := Nat.div_add_mod (x * 2 ^ k) 18446744073709551616
  rw [Nat.add_mul, Nat.mul_add, Nat.mul_assoc]
  omega
theorem o_i1 {k : Nat} (hk : k < 64) : ∀ {l : List Nat} {c : Nat}, small l → c < 2 ^ k → small (movedL k c l) := by
 have p64 : (18446744073709551616 : Nat) = 2 ^ (64 - k) * 2 ^ k := by rw [← Nat.pow_add, show 64 - k + k = 64 by omega]
 intro l
 induction l with
 | nil =>
  intro c _ hc x hx
  simp [movedL] at hx; subst hx
  exact Nat.lt_trans hc (by rw [show (18446744073709551616 : Nat) = 2 ^ 64 by decide]; exact Nat.pow_lt_pow_right (by decide) hk)
 | cons y l ih =>
  intro c h hc x hx
  simp only [movedL, List.mem_cons] at hx
  have hy := h y (by simp)
  rcases hx with rfl | hx
  ·rw [p64, Nat.mul_mod_mul_right]
   have : y % 2 ^ (64 - k) < 2 ^ (64 - k) := Nat.mod_lt _ (Nat.pow_pos (by decide))
   calc _ < y % 2 ^ (64 - k) * 2 ^ k + 2 ^ k := by omega
    _ = (y % 2 ^ (64 - k) + 1) * 2 ^ k := by rw [Nat.add_mul, Nat.one_mul]
    _ ≤ _ := Nat.mul_le_mul_right _ this
  ·refine ih (fun z hz => h z (by simp [hz])) ?_ x hx
   apply Nat.div_lt_of_lt_mul
   exact Nat.mul_lt_mul_of_pos_right hy (Nat.pow_pos (by decide))

def movedB (k : Nat) : Nat → List Nat → List Nat
 | _, [] => []
 | c, x :: l => ((x * 2 ^ k) % 18446744073709551616 + c) :: movedB k (x * 2 ^ k / 18446744073709551616) l
def movedC (k : Nat) : Nat → List Nat → Nat
 | c, [] => c
 | _, x :: l => movedC k (x * 2 ^ k / 18446744073709551616) l
theorem o_i2 (k : Nat) : ∀ (l : List Nat) (c : Nat), movedL k c l = movedB k c l ++ [movedC k c l] := by
 intro l
 induction l with
 | nil => intro c; rfl
 | cons x l ih => intro c; simp [movedL, movedB, movedC, ih]
theorem o_i3 (k : Nat) (l : List Nat) (c : Nat) : (movedB k c l).length = l.length := by
 have h := o_hz k l c
 rw [o_i2, List.length_append] at h
 simpa using h
theorem o_i4 (k : Nat) (x : Nat) : ∀ (l : List Nat) (c : Nat), movedB k c (l ++ [x]) = movedB k c l ++ [(x * 2 ^ k) % 18446744073709551616 + movedC k c l] := by
 intro l
 induction l with
 | nil => intro c; rfl
 | cons y l ih => intro c; simp [movedB, movedC, ih]
theorem o_i5 (k : Nat) (x : Nat) : ∀ (l : List Nat) (c : Nat), movedC k c (l ++ [x]) = x * 2 ^ k / 18446744073709551616 := by
 intro l
 induction l with
 | nil => intro c; rfl
 | cons y l ih => intro c; simp [movedC, ih]
theorem o_i6 {k x : Nat} (hx : x < 18446744073709551616) : x * 2 ^ k / 18446744073709551616 < 2 ^ k := by
 apply Nat.div_lt_of_lt_mul
 exact Nat.mul_lt_mul_of_pos_right hx (Nat.pow_pos (by decide))
theorem o_i7 {k : Nat} : ∀ {l : List Nat} {c : Nat}, small l → c < 2 ^ k → movedC k c l < 2 ^ k := by
 intro l
 induction l with
 | nil => intro c _ hc; exact hc
 | cons x l ih => intro c h hc; exact ih (fun z hz => h z (by simp [hz])) (o_i6 (h x (by simp)))
theorem o_i8 {k x c : Nat} (hk : k < 64) (hc : c < 2 ^ k) : c ||| (x * 2 ^ k) % 18446744073709551616 = (x * 2 ^ k) % 18446744073709551616 + c := by
 have p64 : (18446744073709551616 : Nat) = 2 ^ (64 - k) * 2 ^ k := by rw [← Nat.pow_add, show 64 - k + k = 64 by omega]
 rw [p64, Nat.mul_mod_mul_right, Nat.or_comm, Nat.mul_comm]
 exact (Nat.two_pow_add_eq_or_of_lt hc _).symm
theorem o_i9 {k x : Nat} (hk : k ≤ 64) : x * 2 ^ k / 18446744073709551616 = x / 2 ^ (64 - k) := by
 have p64 : (18446744073709551616 : Nat) = 2 ^ (64 - k) * 2 ^ k := by rw [← Nat.pow_add, show 64 - k + k = 64 by omega]
 rw [p64, Nat.mul_div_mul_right _ _ (Nat.pow_pos (by decide))]

theorem o_ia : ∀ {ws : List Nat} {m : Nat}, top1 ws → wval ws < 18446744073709551616 ^ m → ws.length ≤ m := by
 intro ws
 induction ws with
 | nil => intro m _ _; exact Nat.zero_le _
 | cons x l ih =>
  intro m ht h
  cases m with
  | zero =>
   exfalso
   rw [Nat.pow_zero] at h
   rw [wval] at h
   cases l with
   | nil =>
    have := ht 0 rfl
    simp [wval] at this h
    omega
   | cons y l =>
    have hw : wval (y :: l) = 0 := by omega
    have : (y :: l).length ≤ 0 := ih (m := 0) (fun k hk => by have := ht (k + 1) (by simp [hk]); simpa using this) (by rw [hw]; decide)
    simp at this
  | succ m =>
   rw [List.length_cons]
   have : l.length ≤ m := by
    cases l with
    | nil => exact Nat.zero_le _
    | cons y l =>
     refine ih (fun k hk => by have := ht (k + 1) (by simp [hk]); simpa using this) ?_
     rw [wval, Nat.pow_succ] at h
     omega
   omega

theorem o_ib (f : Nat → Nat) (n : Nat) : wval ((List.range (n + 1)).map f) = wval ((List.range n).map f) + 18446744073709551616 ^ n * f n := by
 rw [List.range_succ, List.map_append, o_hr]
 simp [wval]
theorem o_ic (l : List Nat) (n : Nat) : wval (l.take (n + 1)) = wval (l.take n) + 18446744073709551616 ^ n * l.getD n 0 := by
 by_cases h : n < l.length
 ·rw [o_hu _ _ h, o_hr, List.length_take, Nat.min_eq_left (Nat.le_of_lt h)]
  simp [wval]
 ·rw [List.take_of_length_le (by omega), List.take_of_length_le (by omega)]
  simp [List.getD, List.getElem?_eq_none (show l.length ≤ n by omega)]

def carryW (a b : List Nat) : Nat → Nat
 | 0 => 0
 | n + 1 => (a.getD n 0 + b.getD n 0 + carryW a b n) / 18446744073709551616
def addW (a b : List Nat) (n : Nat) : Nat := (a.getD n 0 + b.getD n 0 + carryW a b n) % 18446744073709551616

theorem small.getD {l : List Nat} (h : small l) (n : Nat) : l.getD n 0 < 18446744073709551616 := by
 by_cases hn : n < l.length
 ·rw [List.getD, List.getElem?_eq_getElem hn]; exact h _ (List.getElem_mem hn)
 ·simp [List.getD, List.getElem?_eq_none (show l.length ≤ n by omega)]
theorem o_id {a b : List Nat} (ha : small a) (hb : small b) : ∀ n, carryW a b n ≤ 1 := by
 intro n
 induction n with
 | zero => exact Nat.zero_le _
 | succ n ih =>
  have h1 := ha.getD n
  have h2 := hb.getD n
  simp only [carryW]
  omega
theorem o_ie (a b : List Nat) : ∀ n, wval ((List.range n).map (addW a b)) + 18446744073709551616 ^ n * carryW a b n = wval (a.take n) + wval (b.take n) := by
 intro n
 induction n with
 | zero => simp [wval, carryW]
 | succ n ih =>
  rw [o_ib, o_ic, o_ic]
  have := Nat.div_add_mod (a.getD n 0 + b.getD n 0 + carryW a b n) 18446744073709551616
  simp only [addW, carryW]
  rw [Nat.pow_succ]
  generalize 18446744073709551616 ^ n = P at *
  generalize (a.getD n 0 + b.getD n 0 + carryW a b n) / 18446744073709551616 = q at *
  generalize (a.getD n 0 + b.getD n 0 + carryW a b n) % 18446744073709551616 = r at *
  have e : P * (18446744073709551616 * q + r) = P * a.getD n 0 + P * b.getD n 0 + P * carryW a b n := by rw [this]; simp [Nat.mul_add]
  rw [Nat.mul_add, ← Nat.mul_assoc] at e
  omega

def borrowW (a b : List Nat) : Nat → Nat
 | 0 => 0
 | n + 1 => if a.getD n 0 < b.getD n 0 + borrowW a b n then 1 else 0
def subW (a b : List Nat) (n : Nat) : Nat := (a.getD n 0 + 18446744073709551616 - b.getD n 0 - borrowW a b n) % 18446744073709551616
theorem o_if (a b : List Nat) : ∀ n, borrowW a b n ≤ 1 := by
 intro n
 cases n with
 | zero => exact Nat.zero_le _
 | succ n => simp only [borrowW]; split <;> omega
theorem o_ig {a b : List Nat} (ha : small a) (hb : small b) : ∀ n, wval ((List.range n).map (subW a b)) + wval (b.take n) = wval (a.take n) + 18446744073709551616 ^ n * borrowW a b n := by
 intro n
 induction n with
 | zero => simp [wval, borrowW]
 | succ n ih =>
  rw [o_ib, o_ic, o_ic]
  have h1 := ha.getD n
  have h2 := hb.getD n
  have h3 := o_if a b n
  have e : subW a b n + b.getD n 0 + borrowW a b n = a.getD n 0 + 18446744073709551616 * borrowW a b (n + 1) := by
   simp only [subW, borrowW]
   split <;> omega
  rw [Nat.pow_succ, Nat.mul_assoc]
  generalize 18446744073709551616 ^ n = P at *
  have e2 : P * subW a b n + P * b.getD n 0 + P * borrowW a b n = P * a.getD n 0 + P * (18446744073709551616 * borrowW a b (n + 1)) := by rw [← Nat.mul_add, ← Nat.mul_add, e, Nat.mul_add]
  omega
theorem o_ih {f : Nat → Nat} (h : ∀ i, f i < 18446744073709551616) (n : Nat) : small ((List.range n).map f) := by
 intro x hx
 obtain ⟨i, _, rfl⟩ := List.mem_map.1 hx
 exact h i
theorem o_ii (a b : List Nat) (i : Nat) : addW a b i < 18446744073709551616 := Nat.mod_lt _ (by decide)
theorem o_ij (a b : List Nat) (i : Nat) : subW a b i < 18446744073709551616 := Nat.mod_lt _ (by decide)

theorem o_ik {a b : List Nat} (ha : small a) (hb : top1 b) (h : a.length < b.length) : wval a < wval b := by
 refine Nat.lt_of_lt_of_le (o_ht ha) ?_
 apply Nat.le_of_not_lt
 intro hlt
 have := o_ia hb hlt
 omega
def cmpN (a b : List Nat) : Nat → Int
 | 0 => 0
 | n + 1 => if a.getD n 0 < b.getD n 0 then -1 else if b.getD n 0 < a.getD n 0 then 1 else cmpN a b n
theorem o_il {l : List Nat} (h : small l) (n : Nat) : wval (l.take n) < 18446744073709551616 ^ n := by
 have := o_ht (h.take n)
 rw [List.length_take] at this
 exact Nat.lt_of_lt_of_le this (Nat.pow_le_pow_right (by decide) (Nat.min_le_left _ _))
theorem o_im {a b : List Nat} (ha : small a) (hb : small b) : ∀ n, cmpN a b n = if wval (a.take n) < wval (b.take n) then -1 else if wval (b.take n) < wval (a.take n) then 1 else 0 := by
 intro n
 induction n with
 | zero => simp [cmpN, wval]
 | succ n ih =>
  rw [o_ic, o_ic]
  have h1 := o_il ha n
  have h2 := o_il hb n
  simp only [cmpN]
  generalize 18446744073709551616 ^ n = P at *
  generalize a.getD n 0 = x at *
  generalize b.getD n 0 = y at *
  by_cases hxy : x < y
  ·rw [if_pos hxy, if_pos]
   have : P * (x + 1) ≤ P * y := Nat.mul_le_mul_left _ hxy
   rw [Nat.mul_add] at this
   omega
  ·rw [if_neg hxy]
   by_cases hyx : y < x
   ·have : P * (y + 1) ≤ P * x := Nat.mul_le_mul_left _ hyx
    rw [Nat.mul_add] at this
    rw [if_pos hyx, if_neg (by omega), if_pos (by omega)]
   ·obtain rfl : x = y := by omega
    rw [if_neg hyx, ih]
    simp only [Nat.add_lt_add_iff_right]
def cmpZ (m n : Nat) : Int := if m < n then -1 else if n < m then 1 else 0
end
end Go.Proofs.YtdklbnemfelpnaaGreatDoor.Am
namespace Go.Proofs.YtdklbnemfelpnaaGreatDoor.Am
section
open Go.RowKit
def W (ws : List Nat) : D := .sl ws.length (ws.map fun x : Nat => .int .u64 x)

def wordsF : Nat → Nat → List Nat
 | 0, _ => []
 | f + 1, n => if n = 0 then [] else (n % 18446744073709551616) :: wordsF f (n / 18446744073709551616)
def words (n : Nat) : List Nat := wordsF n n

theorem o_in : ∀ (f n : Nat), n ≤ f → wval (wordsF f n) = n ∧ small (wordsF f n) ∧ top1 (wordsF f n)
 | 0, n, h => by
  obtain rfl : n = 0 := by omega
  exact ⟨rfl, by simp [small, wordsF], by intro k hk; simp [wordsF] at hk⟩
 | f + 1, n, h => by
  by_cases h0 : n = 0
  ·subst h0
   simp only [wordsF, if_true]
   exact ⟨rfl, by simp [small], by intro k hk; simp at hk⟩
  ·obtain ⟨h1, h2, h3⟩ := o_in f (n / 18446744073709551616) (by omega)
   simp only [wordsF, if_neg h0]
   refine ⟨by simp only [wval, h1]; omega, fun x hx => ?_, fun k hk => ?_⟩
   ·rcases List.mem_cons.1 hx with rfl | hx
    ·omega
    ·exact h2 x hx
   ·cases hl : wordsF f (n / 18446744073709551616) with
    | nil =>
     rw [hl] at h1 hk
     simp [wval] at h1 hk
     subst hk
     simp; omega
    | cons y r =>
     rw [hl] at hk h3
     simp at hk
     subst hk
     have := h3 r.length rfl
     simpa using this
theorem o_io (n : Nat) : wval (words n) = n := (o_in n n (Nat.le_refl _)).1
theorem o_ip (n : Nat) : small (words n) := (o_in n n (Nat.le_refl _)).2.1
theorem o_iq (n : Nat) : top1 (words n) := (o_in n n (Nat.le_refl _)).2.2
theorem o_ir {ws : List Nat} (h : small ws) (ht : top1 ws) : words (wval ws) = ws := o_hy (o_ip _) h (o_iq _) ht (o_io _)
theorem o_is {n : Nat} : words n = [] ↔ n = 0 := by
 constructor
 ·intro h; have := o_io n; rw [h] at this; exact this.symm
 ·rintro rfl; rfl

def natW (n : Nat) : D := W (words n)
theorem o_it {ws : List Nat} (h : small ws) (ht : top1 ws) : natW (wval ws) = W ws := by rw [natW, o_ir h ht]
theorem o_iu : natW 0 = .sl 0 [] := rfl
def size (n : Nat) : Nat := (words n).length

theorem o_iv (n : Nat) (l : List D) (hl : l.length = n) (hn : n ≤ 4000000000) : Eqn Tryz.prog o_c0 [.d (.sl n l)] [] (.d (.sl n l)) [] := by
 refine Eqn.pure o_c2 (o_42 _) ?_
 simp only [o_c1]
 rcases Nat.eq_zero_or_pos n with rfl | h0
 ·have : l = [] := List.eq_nil_of_length_eq_zero hl
  subst this
  refine AW.empty 0 rfl ?_ ?_
  ·simp
   refine G0 ?_; try with_reducible exact tt
   refine AW.cond rfl (fun h => ?_) (fun h => ?_)
   ·refine G0 ?_; try with_reducible exact tt
    exact Sub1.nil
   ·simp at h
  ·simp
   refine G0 ?_; try with_reducible exact tt
   refine AW.cond rfl (fun h => ?_) (fun h => ?_)
   ·simp at h
   ·refine G0 ?_; try with_reducible exact tt
    exact Sub1.sl0
 ·refine G1 h0 ?_; try with_reducible exact tt
  refine AW.cond rfl (fun h => ?_) (fun h => ?_)
  ·simp at h
  ·refine G0 ?_; try with_reducible exact tt
   have h1 : ¬ n = 0 := by omega
   simp [h1, hl]
   refine need.of (by omega) ?_
   refine AW.freeze 0 1 ⟨129, l.map .d⟩ l (by simp) rfl ?_
   simp
   refine G0 ?_; try with_reducible exact tt
   have : l.take n = l := List.take_of_length_le (by omega)
   simp [this]

theorem o_iw {ws : List Nat} {k : Nat} (h : k < ws.length) : ws[k] = ws.getD k 0 := by simp [List.getD, h]

theorem o_ix (ws : List Nat) (hs : small ws) (hn : ws.length ≤ 4000000000) : Eqn Tryz.prog o_9r [.d (W ws)] [] (.d (.agg [natW (wval ws)])) [] := by
 refine Eqn.pure o_9t (o_42 _) ?_
 simp only [o_9s, W]
 refine G0 ?_; try with_reducible exact tt
 refine AW.loopT (α := Nat) 1 (fun m => [(3, .d (.int .i64 (m : Int)))]) (fun _ => []) (fun m => m ≤ ws.length ∧ trimN ws m = trimN ws ws.length) (fun m => m) ws.length ?_ ?_ ⟨Nat.le_refl _, rfl⟩ ?_ ?_ ?_
 ·simp
 ·simp
 ·simp
 ·simp
 rintro m ⟨hm, ht⟩
 simp
 have fin : ∀ k, k = trimN ws ws.length → W (ws.take k) = natW (wval ws) := by
  rintro k rfl
  have := o_it (hs.take (trimN ws ws.length)) (o_hw ws _ (Nat.le_refl _))
  rw [← this, o_hv _ _ (Nat.le_refl _), List.take_length]
 cases m with
 | zero =>
  refine G0 ?_; try with_reducible exact tt
  refine AW.cond rfl (fun h => ?_) (fun h => ?_)
  ·simp at h
  refine G0 ?_; try with_reducible exact tt
  refine Sub1.of ?_
  rw [← fin 0 ht]
  simp [W]
 | succ m =>
  have hm' : m < ws.length := hm
  have hp : (0 : Int) < (m : Int) + 1 := by omega
  have e : (m : Int) + 1 - 1 = m := by omega
  have ew : IntKind.i64.wrap (m : Int) = m := w64 (by omega) (by omega)
  refine G1 (fs hp (fs e (fs ew hm'))) ?_; try with_reducible exact tt
  refine AW.cond rfl (fun h => ?_) (fun h => ?_)
  ·simp at h
   refine G1 (fs hp (fs e ew)) ?_; try with_reducible exact tt
   refine ⟨m, ⟨by omega, ?_⟩, ?_⟩
   ·rw [← ht, trimN, if_pos]
    rw [← o_iw hm']; omega
   ·simp
  ·simp at h
   refine G0 ?_; try with_reducible exact tt
   have hk : m + 1 = trimN ws ws.length := by
    rw [← ht, trimN, if_neg]
    rw [← o_iw hm']; omega
   refine G0 ?_; try with_reducible exact tt
   refine Sub1.of ?_
   rw [← fin _ hk]
   simp [W]
   omega

theorem o_iy (ws : List Nat) (hs : small ws) (hn : ws.length ≤ 4000000000) : Eqn Tryz.prog o_9l [.d (W ws)] [] (.d (.agg [natW (wval ws)])) [] := by
 refine Eqn.pure o_9n (o_42 _) ?_
 simp only [o_9m, W]
 refine G0 ?_; try with_reducible exact tt
 refine CallS.pu (o_iv _ (ws.map fun x : Nat => .int .u64 x) (by simp) hn) (R0 ?_); try with_reducible exact tt
 refine CallS.pu (o_ix ws hs hn) (R0 ?_); try with_reducible exact tt

theorem o_iz (n : Nat) : Eqn Tryz.prog o_9f [.d (.agg [natW n])] [] (.d (.bool (n == 0))) [] := by
 refine Eqn.pure o_9h (o_42 _) ?_
 simp only [o_9g, natW, W]
 refine G0 ?_; try with_reducible exact tt
 refine Sub1.bool ?_
 rw [Bool.eq_iff_iff]
 simp [o_is]

theorem o_j0 {m n : Nat} (h : size m < size n) : m < n := by
 have := o_ik (o_ip m) (o_iq n) h
 rwa [o_io, o_io] at this

theorem o_j1 (m n : Nat) (hm : size m ≤ 1000000) (hn : size n ≤ 1000000) : Eqn Tryz.prog o_9x [.d (.agg [natW m]), .d (.agg [natW n])] [] (.d (.int .i64 (cmpZ m n))) [] := by
 refine Eqn.pure o_9z (o_42 _) ?_
 unfold size at hm hn
 have sa := o_ip m
 have sb := o_ip n
 simp only [o_9y, natW, W]
 have hz : cmpZ m n = if (words m).length < (words n).length then -1 else if (words n).length < (words m).length then 1 else cmpN (words m) (words n) (words m).length := by
  split
  ·rename_i h; rw [cmpZ, if_pos (o_j0 h)]
  ·split
   ·rename_i h; have := o_j0 h; rw [cmpZ, if_neg (by omega), if_pos this]
   ·have := o_im sa sb (words m).length
    rw [List.take_length, show (words m).length = (words n).length by omega, List.take_length, o_io, o_io] at this
    rw [show (words m).length = (words n).length by omega, this]
    rfl
 rw [hz]
 clear hz
 generalize words m = xs at *
 generalize words n = ys at *
 by_cases hl : xs.length = ys.length
 ·refine G1 hl ?_; try with_reducible exact tt
  refine AW.cond rfl (fun h => ?_) (fun h => ?_)
  ·simp [w64] at h
  refine G1 hl ?_; try with_reducible exact tt
  refine AW.loopT (α := Nat) 2 (fun m => [(6, .d (.int .i64 ((m : Int) - 1)))]) (fun _ => []) (fun m => m ≤ ys.length ∧ cmpN xs ys m = cmpN xs ys ys.length) (fun m => m) ys.length ?_ ?_ ⟨Nat.le_refl _, rfl⟩ ?_ ?_ ?_
  ·simp
  ·simp
  ·simp [hl]
  ·simp
  rintro m ⟨hm', hc⟩
  simp
  cases m with
  | zero =>
   refine G0 ?_; try with_reducible exact tt
   refine AW.cond rfl (fun h => ?_) (fun h => ?_)
   ·simp at h
   refine G0 ?_; try with_reducible exact tt
   refine Sub1.int ?_
   rw [← hc]; rfl
  | succ m =>
   have h1 : m < xs.length := by omega
   have h2 : m < ys.length := hm'
   have e : (m : Int) + 1 - 1 = m := by omega
   have ew : IntKind.i64.wrap ((m : Int) - 1) = (m : Int) - 1 := w64 (by omega) (by omega)
   rw [cmpN, ← o_iw h1, ← o_iw h2] at hc
   refine G1 (fs e (fs h1 h2)) ?_; try with_reducible exact tt
   refine AW.cond rfl (fun h => ?_) (fun h => ?_)
   ·refine G1 (fs e (fs h1 h2)) ?_; try with_reducible exact tt
    refine AW.cond rfl (fun h => ?_) (fun h => ?_)
    ·simp at h
     refine G0 ?_; try with_reducible exact tt
     refine Sub1.int ?_
     rw [if_pos h] at hc
     exact hc
    ·simp at h
     rw [if_neg (by omega)] at hc
     refine G0 ?_; try with_reducible exact tt
     refine AW.cond rfl (fun h => ?_) (fun h => ?_)
     ·simp at h
      refine G0 ?_; try with_reducible exact tt
      refine Sub1.int ?_
      rw [if_pos h] at hc
      exact hc
     ·simp at h
      rw [if_neg (by omega)] at hc
      refine G1 ew ?_; try with_reducible exact tt
      exact ⟨m, ⟨by omega, hc⟩, by simp⟩
   ·simp at h
 ·refine G0 ?_; try with_reducible exact tt
  refine AW.cond rfl (fun h => ?_) (fun h => ?_)
  ·refine G0 ?_; try with_reducible exact tt
   refine Sub1.int ?_
   split <;> omega
  ·simp at h
   omega
end
end Go.Proofs.YtdklbnemfelpnaaGreatDoor.Am
namespace Go.Proofs.YtdklbnemfelpnaaGreatDoor.Am
section
open Go.RowKit
abbrev U (ws : List Nat) : List V := ws.map fun x : Nat => V.d (.int .u64 x)

theorem o_j2 (x y c s d : Nat) (hx : x < 18446744073709551616) (hy : y < 18446744073709551616) (hc : c ≤ 1) (hs : s < 18446744073709551616) (e : x + y + c = s + 18446744073709551616 * d) : Eqn Tryz.prog o_hn [.d (.int .u64 x), .d (.int .u64 y), .d (.int .u64 c)] [] (.tup [.d (.int .u64 s), .d (.int .u64 d)]) [] := by
 refine Eqn.extern o_ho (by kernel_rfl) (by kernel_rfl) (by kernel_rfl) (e := add64Entry) (by kernel_rfl) rfl fun m vs h => ?_
 obtain ⟨v1, r1, rfl, h1, h⟩ := V.reps_cons'.1 h
 obtain ⟨v2, r2, rfl, h2, h⟩ := V.reps_cons'.1 h
 obtain ⟨v3, r3, rfl, h3, h⟩ := V.reps_cons'.1 h
 simp at h; subst h
 rw [V.rep_int] at h1 h2 h3
 subst h1 h2 h3
 have := run_add64 (P := Tryz.prog) x y c (by omega) (by omega) (by omega) (by omega) m.w
 refine ⟨_, this, ?_⟩
 unfold V.rep
 refine ⟨[.int .u64 (((x : Int) + y + c) % 18446744073709551616), .int .u64 (((x : Int) + y + c) / 18446744073709551616)], rfl, ?_⟩
 simp only [V.reps_cons, V.rep_int, V.reps_nil, and_true]
 constructor <;> congr 1 <;> omega

theorem o_j3 (x y c s d : Nat) (hx : x < 18446744073709551616) (hy : y < 18446744073709551616) (hc : c ≤ 1) (hs : s < 18446744073709551616) (e : x + 18446744073709551616 * d = s + y + c) : Eqn Tryz.prog o_hp [.d (.int .u64 x), .d (.int .u64 y), .d (.int .u64 c)] [] (.tup [.d (.int .u64 s), .d (.int .u64 d)]) [] := by
 refine Eqn.extern o_hq (by kernel_rfl) (by kernel_rfl) (by kernel_rfl) (e := sub64Entry) (by kernel_rfl) rfl fun m vs h => ?_
 obtain ⟨v1, r1, rfl, h1, h⟩ := V.reps_cons'.1 h
 obtain ⟨v2, r2, rfl, h2, h⟩ := V.reps_cons'.1 h
 obtain ⟨v3, r3, rfl, h3, h⟩ := V.reps_cons'.1 h
 simp at h; subst h
 rw [V.rep_int] at h1 h2 h3
 subst h1 h2 h3
 have := run_sub64 (P := Tryz.prog) x y c hc m.w
 refine ⟨_, this, ?_⟩
 unfold V.rep
 refine ⟨[.int .u64 s, .int .u64 d], ?_, by simp only [V.reps_cons, V.rep_int, V.reps_nil, and_true]⟩
 congr 4
 ·omega
 ·congr 2
  split <;> omega

theorem o_j4 (a b : List Nat) (i : Nat) : a.getD i 0 + b.getD i 0 + carryW a b i = addW a b i + 18446744073709551616 * carryW a b (i + 1) := by
 rw [addW, carryW]; exact (Nat.mod_add_div _ _).symm
theorem o_j5 {ws : List Nat} {k : Nat} (h : ¬ k < ws.length) : ws.getD k 0 = 0 := by simp [List.getD, show ws.length ≤ k by omega]
theorem o_j6 (l : List D) : (V.tup (l.map .d)).plain := by
 have h1 : V.lowl 0 (l.map V.d) = true := by induction l <;> simp_all [V.lowl, V.low]
 have h2 : ∀ θ, V.rens θ (l.map V.d) = l.map V.d := fun θ => by induction l <;> simp_all [V.rens, V.ren]
 exact ⟨by simp [V.low, h1], fun θ => by simp [V.ren, h2]⟩

def rowV (f : Nat → D) (n i : Nat) : List V := (List.range i).map (fun k => V.d (f k)) ++ List.replicate (n - i) (.d (.int .u64 0))
@[simp] theorem o_j7 (f : Nat → D) (n i : Nat) : (rowV f n i).length = i + (n - i) := by simp [rowV]
theorem out0 (n : Nat) (f : Nat → D) : List.replicate n (V.d (.int .u64 0)) = rowV f n 0 := by simp [rowV]
theorem o_j8 {f : Nat → D} {n i : Nat} (h : i < n) : (rowV f n i).set i (.d (f i)) = rowV f n (i + 1) := by
 obtain ⟨k, rfl⟩ : ∃ k, n = i + k + 1 := ⟨n - i - 1, by omega⟩
 rw [rowV, rowV, List.set_append_right _ _ (by simp), List.range_succ, List.map_append, List.append_assoc]
 congr 1
 simp only [List.length_map, List.length_range, Nat.sub_self]
 rw [show i + k + 1 - i = k + 1 by omega, show i + k + 1 - (i + 1) = k by omega]
 simp [List.replicate_succ]
@[simp] theorem o_j9 (n : Nat) (f : Nat → D) (k i : Nat) : V.lowl n (rowV f k i) = true := by
 have h1 : ∀ l : List D, V.lowl n (l.map V.d) = true := fun l => by induction l <;> simp_all [V.lowl, V.low]
 have : rowV f k i = ((List.range i).map f ++ List.replicate (k - i) (D.int .u64 0)).map .d := by simp [rowV]
 rw [this, h1]
@[simp] theorem o_ja (l : List V) : Subs l l ↔ True := iff_true_intro (Subs.refl l)
theorem o_jb {f : Nat → D} {n : Nat} {z : D} : (rowV f (n + 1) n).set n (.d z) = ((List.range n).map f ++ [z]).map .d := by
 rw [rowV, List.set_append_right _ _ (by simp)]
 simp
theorem o_jc {f : Nat → D} {n : Nat} : rowV f n n = ((List.range n).map f).map .d := by simp [rowV]

theorem o_jd (a b : D) : (V.tup [.d a, .d b]).plain := o_j6 [a, b]
theorem o_je (a b c : D) : (V.tup [.d a, .d b, .d c]).plain := o_j6 [a, b, c]

theorem o_jf (m n : Nat) (hm : size m ≤ 1000000) (hn : size n ≤ 1000000) : Eqn Tryz.prog o_9i [.d (.agg [natW m]), .d (.agg [natW n])] [] (.d (.agg [natW (m + n)])) [] := by
 refine Eqn.pure o_9k (o_42 _) ?_
 -- the longer one, the other one
 obtain ⟨A, B, hAB, hsA, hsB, hle, hsum, hca, hcb⟩ : ∃ A B : List Nat, (A, B) = (if (words m).length < (words n).length then (words n, words m) else (words m, words n)) ∧ small A ∧ small B ∧ B.length ≤ A.length ∧ wval A + wval B = m + n ∧ A.length ≤ 1000000 ∧ B.length ≤ 1000000 := by
  unfold size at hm hn
  by_cases h : (words m).length < (words n).length
  ·exact ⟨words n, words m, by rw [if_pos h], o_ip _, o_ip _, by omega, by rw [o_io, o_io]; omega, by omega, by omega⟩
  ·exact ⟨words m, words n, by rw [if_neg h], o_ip _, o_ip _, by omega, by rw [o_io, o_io], by omega, by omega⟩
 simp only [o_9j, natW, W]
 generalize words m = xs at *
 generalize words n = ys at *
 unfold size at hm hn
 refine AW.seq (AW.reg mix ?_)
 (simp -implicitDefEqProofs; try simp (disch := omega) only [w64, wu64])
 refine AW.cut 3 [] [(0, ⟨t_nat_Nat, [.d (W A)]⟩), (1, ⟨t_nat_Nat, [.d (W B)]⟩)] ?_ ?_ ?_ ?_
 ·simp
 ·simp
 ·refine G0 ?_; try with_reducible exact tt
  refine AW.cond rfl (fun h => ?_) (fun h => ?_)
  ·simp at h
   rw [if_pos h] at hAB
   cases hAB
   refine G0 ?_; try with_reducible exact tt
   simp [W]
  ·simp at h
   rw [if_neg (by omega)] at hAB
   cases hAB
   refine G0 ?_; try with_reducible exact tt
   simp [W]
 clear hAB hm hn
 simp [W]
 refine G0 ?_; try with_reducible exact tt

 rw [out0 _ (fun k => .int .u64 (addW A B k : Nat))]
 refine G0 ?_; try with_reducible exact tt
 refine AW.loopT (α := Nat) 4 (fun i => [(27, .d (.int .i64 (i : Int))), (6, .d (.int .u64 (carryW A B i : Nat)))]) (fun i => [(3, ⟨129, rowV (fun k => .int .u64 (addW A B k : Nat)) (A.length + 1) i⟩)]) (fun i => i ≤ A.length) (fun i => A.length - i) 0 ?_ ?_ (Nat.zero_le _) ?_ ?_ ?_
 ·simp
 ·simp
 ·simp [carryW]
 ·simp
 rintro i hi
 simp
 by_cases h : i = A.length
 ·subst h
  refine G0 ?_; try with_reducible exact tt
  refine AW.cond rfl (fun h => ?_) (fun h => ?_)
  ·simp at h
  refine AW.exit ?_
  (try (simp -implicitDefEqProofs; try simp (disch := omega) only [w64, wu64]))
  repeat (first | refine AW.seq ?_ | refine AW.block ?_)
  refine AW.reg mix ?_
  (simp -implicitDefEqProofs; try simp (disch := omega) only [w64, wu64])
  try refine need.of (by first | omega | kernel_rfl) ?_
  obtain ⟨ws, hl, hr, hv, hs⟩ : ∃ ws : List Nat, ws.length = A.length + 1 ∧ (rowV (fun k => .int .u64 (addW A B k : Nat)) (A.length + 1) A.length).set A.length (.d (.int .u64 (carryW A B A.length : Nat))) = U ws ∧ wval ws = m + n ∧ small ws := by
   refine ⟨(List.range A.length).map (addW A B) ++ [carryW A B A.length], by simp, by rw [o_jb]; simp [U], ?_, ?_⟩
   ·rw [o_hr, ← hsum]
    have := o_ie A B A.length
    rw [List.take_length, List.take_of_length_le hle] at this
    simp [wval]
    rw [← this]
   ·intro x hx
    rcases List.mem_append.1 hx with hx | hx
    ·obtain ⟨k, -, rfl⟩ := List.mem_map.1 hx; exact o_ii _ _ _
    ·simp at hx; subst hx; have := o_id hsA hsB A.length; omega
  rw [hr]
  refine AW.freeze 3 1 ⟨129, _⟩ (ws.map fun x : Nat => .int .u64 x) (by rfl) (by simp) ?_
  simp [← hl, List.take_of_length_le]
  refine G0 ?_; try with_reducible exact tt
  refine CallS.pu (o_ix ws hs (by omega)) (R0 ?_); try with_reducible exact tt
  refine Sub1.of ?_
  rw [hv]; rfl
 ·have hi' : i < A.length := by omega
  have hp : (i : Int) < A.length := by omega
  have hc := o_id hsA hsB i
  have hset := o_j8 (f := fun k => .int .u64 (addW A B k : Nat)) (n := A.length + 1) (i := i) (by omega)
  have ew : IntKind.i64.wrap ((i : Int) + 1) = (i : Int) + 1 := w64 (by omega) (by omega)
  refine G1 (fs hi' hp) ?_; try with_reducible exact tt
  refine AW.cond rfl (fun h => ?_) (fun h => ?_)
  ·clear h
   by_cases hb : i < B.length
   ·have e : A[i] + B[i] + carryW A B i = addW A B i + 18446744073709551616 * carryW A B (i + 1) := by
     rw [← o_j4, o_iw hi', o_iw hb]
    refine G1 (fs hi' (fs hp hb)) ?_; try with_reducible exact tt
    refine AW.cond rfl (fun h => ?_) (fun h => ?_)
    ·clear h
     refine G1 (fs hi' (fs hp hb)) ?_; try with_reducible exact tt
     refine CallS.pu (o_j2 _ _ _ (addW A B i) (carryW A B (i + 1)) (hsA _ (List.getElem_mem _)) (hsB _ (List.getElem_mem _)) hc (o_ii _ _ _) e) (R1 (fs hset ew) ?_); try with_reducible exact tt
     exact ⟨i + 1, by omega, by omega, by simp [wk, ew], by simp [wkH]⟩
    ·simp [hb] at h
   ·have e : A[i] + 0 + carryW A B i = addW A B i + 18446744073709551616 * carryW A B (i + 1) := by
     rw [← o_j4, o_iw hi', o_j5 hb]
    refine G1 (fs hi' (fs hp hb)) ?_; try with_reducible exact tt
    refine AW.cond rfl (fun h => ?_) (fun h => ?_)
    ·simp [hb] at h
    ·clear h
     refine G1 (fs hi' (fs hp hb)) ?_; try with_reducible exact tt
     refine CallS.pu (o_j2 _ 0 _ (addW A B i) (carryW A B (i + 1)) (hsA _ (List.getElem_mem _)) (by omega) hc (o_ii _ _ _) e) (R1 (fs hset ew) ?_); try with_reducible exact tt
     exact ⟨i + 1, by omega, by omega, by simp [wk, ew], by simp [wkH]⟩
  ·simp at h
end
end Go.Proofs.YtdklbnemfelpnaaGreatDoor.Am
namespace Go.Proofs.YtdklbnemfelpnaaGreatDoor.Am
section
open Go.RowKit
theorem o_jg {a b : List Nat} (ha : small a) (hb : small b) (i : Nat) : a.getD i 0 + 18446744073709551616 * borrowW a b (i + 1) = subW a b i + b.getD i 0 + borrowW a b i := by
 have h1 := ha.getD i
 have h2 := hb.getD i
 have h3 := o_if a b i
 simp only [subW, borrowW]
 split <;> omega
theorem o_jh {a b : List Nat} (ha : small a) (hb : small b) (hl : b.length ≤ a.length) (h : wval b ≤ wval a) : wval ((List.range a.length).map (subW a b)) = wval a - wval b := by
 have h1 := o_ig ha hb a.length
 rw [List.take_length, List.take_of_length_le hl] at h1
 have h2 := o_if a b a.length
 have h3 := o_ht (o_ih (o_ij a b) a.length)
 rw [List.length_map, List.length_range] at h3
 have : borrowW a b a.length = 0 ∨ borrowW a b a.length = 1 := by omega
 rcases this with e | e
 ·rw [e] at h1; omega
 ·rw [e] at h1; omega
theorem o_ji {m n : Nat} (h : m ≤ n) : size m ≤ size n := by
 apply Nat.le_of_not_lt
 intro hlt
 have := o_j0 hlt
 omega

theorem o_jj (m n : Nat) (hm : size m ≤ 1000000) (hle : n ≤ m) : Eqn Tryz.prog o_a0 [.d (.agg [natW m]), .d (.agg [natW n])] [] (.tup [.d (.agg [natW (m - n)]), .d (.int .i64 0)]) [] := by
 refine Eqn.pure o_a2 (o_jd _ _) ?_
 have hs := o_ji hle
 simp only [o_a1]
 refine G0 ?_; try with_reducible exact tt
 refine CallS.pu (o_j1 m n hm (by omega)) (R0 ?_); try with_reducible exact tt
 have hc : ¬ cmpZ m n < 0 := by unfold cmpZ; split <;> (try split) <;> omega
 refine AW.cond rfl (fun h => ?_) (fun h => ?_)
 ·simp [hc] at h
 clear h
 refine G0 ?_; try with_reducible exact tt
 unfold size at hm hs
 obtain ⟨A, hA⟩ : ∃ A, A = words m := ⟨_, rfl⟩
 obtain ⟨B, hB⟩ : ∃ B, B = words n := ⟨_, rfl⟩
 have hsA : small A := hA ▸ o_ip m
 have hsB : small B := hB ▸ o_ip n
 have hvA : wval A = m := by rw [hA, o_io]
 have hvB : wval B = n := by rw [hB, o_io]
 rw [show natW m = .sl A.length (A.map fun x : Nat => .int .u64 x) by rw [hA]; rfl, show natW n = .sl B.length (B.map fun x : Nat => .int .u64 x) by rw [hB]; rfl]
 rw [← hA, ← hB] at hs
 rw [← hA] at hm
 clear hA hB
 refine G0 ?_; try with_reducible exact tt
 rw [out0 _ (fun k => .int .u64 (subW A B k : Nat))]
 refine AW.loopT (α := Nat) 4 (fun i => [(23, .d (.int .i64 (i : Int))), (7, .d (.int .u64 (borrowW A B i : Nat)))]) (fun i => [(3, ⟨129, rowV (fun k => .int .u64 (subW A B k : Nat)) A.length i⟩)]) (fun i => i ≤ A.length) (fun i => A.length - i) 0 ?_ ?_ (Nat.zero_le _) ?_ ?_ ?_
 ·simp
 ·simp
 ·simp [borrowW]
 ·simp
 rintro i hi
 simp
 by_cases h : i = A.length
 ·subst h
  refine G0 ?_; try with_reducible exact tt
  refine AW.cond rfl (fun h => ?_) (fun h => ?_)
  ·simp at h
  refine AW.exit ?_
  (try (simp -implicitDefEqProofs; try simp (disch := omega) only [w64, wu64]))
  obtain ⟨ws, hl, hr, hv, hs'⟩ : ∃ ws : List Nat, ws.length = A.length ∧ rowV (fun k => .int .u64 (subW A B k : Nat)) A.length A.length = U ws ∧ wval ws = m - n ∧ small ws := by
   refine ⟨(List.range A.length).map (subW A B), by simp, by rw [o_jc]; simp [U], ?_, o_ih (o_ij A B) _⟩
   rw [← hvA, ← hvB]
   exact o_jh hsA hsB hs (by omega)
  rw [hr]
  refine AW.freeze 3 1 ⟨129, _⟩ (ws.map fun x : Nat => .int .u64 x) (by rfl) (by simp) ?_
  simp [← hl, List.take_of_length_le]
  refine G0 ?_; try with_reducible exact tt
  refine CallS.pu (o_ix ws hs' (by omega)) (R0 ?_); try with_reducible exact tt
  refine Sub1.of ?_
  rw [hv]
 ·have hi' : i < A.length := by omega
  have hp : (i : Int) < A.length := by omega
  have hc := o_if A B i
  have hset := o_j8 (f := fun k => .int .u64 (subW A B k : Nat)) (n := A.length) (i := i) (by omega)
  have ew : IntKind.i64.wrap ((i : Int) + 1) = (i : Int) + 1 := w64 (by omega) (by omega)
  have e := o_jg hsA hsB i
  refine G1 (fs hi' hp) ?_; try with_reducible exact tt
  refine AW.cond rfl (fun h => ?_) (fun h => ?_)
  ·clear h
   by_cases hb : i < B.length
   ·rw [← o_iw hi', ← o_iw hb] at e
    refine G1 (fs hi' (fs hp hb)) ?_; try with_reducible exact tt
    refine AW.cond rfl (fun h => ?_) (fun h => ?_)
    ·clear h
     refine G1 (fs hi' (fs hp hb)) ?_; try with_reducible exact tt
     refine CallS.pu (o_j3 _ _ _ (subW A B i) (borrowW A B (i + 1)) (hsA _ (List.getElem_mem _)) (hsB _ (List.getElem_mem _)) hc (o_ij _ _ _) e) (R1 (fs hset ew) ?_); try with_reducible exact tt
     exact ⟨i + 1, by omega, by omega, by simp [wk, ew], by simp [wkH]⟩
    ·simp [hb] at h
   ·rw [← o_iw hi', o_j5 hb] at e
    refine G1 (fs hi' (fs hp hb)) ?_; try with_reducible exact tt
    refine AW.cond rfl (fun h => ?_) (fun h => ?_)
    ·simp [hb] at h
    ·clear h
     refine G1 (fs hi' (fs hp hb)) ?_; try with_reducible exact tt
     refine CallS.pu (o_j3 _ 0 _ (subW A B i) (borrowW A B (i + 1)) (hsA _ (List.getElem_mem _)) (by omega) hc (o_ij _ _ _) e) (R1 (fs hset ew) ?_); try with_reducible exact tt
     exact ⟨i + 1, by omega, by omega, by simp [wk, ew], by simp [wkH]⟩
  ·simp at h
end
end Go.Proofs.YtdklbnemfelpnaaGreatDoor.Am
