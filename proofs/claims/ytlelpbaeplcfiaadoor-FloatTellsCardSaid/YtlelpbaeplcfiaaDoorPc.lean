/- Parts of the proof: CodeD, Nat1, Nat2, Nat3, Nat4, Nat5, Nat6, Rat1, Text1, Tape1, Float1, Flip1, Flip2, Morris1, Chain1, YuM, DivM, Nat7, Yu1, YuX, YuW, YuAt, YuAt2, Yu2, Float2, Yu3, Chain2, Chain3, Chain4, Chain5, Chain6, ChainP, Chain7, Chain8, ChainA, ChainM, ChainB, ChainC, ChainD, ChainE, Chain9, ChainF, ThinM, Thin1, Thin2, Thin3, Reg1, BitsM, Bits1, Bits2, Bits3, Reg2, Reg3, Reg4, PackM, Pack1, Pack2, Carr1, Carr2, Carr3, Carr6, AmUn, Cms1, Dec1, Dec2, Dec3, TxtM. -/
import Derived.Test.YtlelpbaeplcfiaaDoorPb
set_option linter.unusedVariables false
set_option linter.unusedSimpArgs false
set_option maxRecDepth 100000
namespace Go.Proofs.YtlelpbaeplcfiaaDoor.Am
section
open Go.Proofs.YtlelpbaeplcfiaaDoor.Am
theorem mix : Tryd.prog.follows .mixedOrders = true := by kernel_rfl
@[simp] def om_ (d s : Nat) (l : List Nat) : O := ⟨some d, .mv (.t s), none, l⟩
@[simp] def oo_ (d : Nat) (a : A) (l : List Nat) : O := ⟨some d, a, none, l⟩
@[simp] def og_ (d : Nat) (a : A) (s : Nat) (b : Bool) (l : List Nat) : O := ⟨some d, a, some (s, b), l⟩
@[simp] def on_ (a : A) (l : List Nat) : O := ⟨none, a, none, l⟩

abbrev t_nat_Nat : Nat := 25
abbrev o_6g : FuncId := 4
def o_6h : C := (.seq (.reg false [oo_ 4 (.mv (.d (.bool false))) []]) (.seq (.seq (.reg false [oo_ 16 (.call 13 []) [],oo_ 17 (.un .not (.t 16)) [0]]) (.cond (.t 17) (.seq (.reg false [oo_ 4 (.mv (.d (.bool false))) []]) .ret) .skip))
 (.seq (.reg false [om_ 19 0 [],om_ 20 1 [],oo_ 21 (.call 14 [(.t 19),(.t 20)]) [0,1],om_ 18 21 [2],oo_ 22 (.ext (.t 18) 0) [3],oo_ 23 (.ext (.t 18) 1) [3],oo_ 5 (.new 42 [.nilsl,(.bool false),.nilsl]) [],on_ (.store 3
 (.t 5) (.t 22)) [6,4,2,0,1,2,3,4,6],om_ 6 23 [5,7,0,1,2,3,4,5,6,7]]) (.seq (.reg false [om_ 25 0 [],om_ 26 1 [],oo_ 27 (.call 15 [(.t 25),(.t 26)]) [0,1],om_ 24 27 [2],oo_ 28 (.ext (.t 24) 0) [3],oo_ 29 (.ext (.t 24) 1)
 [3],oo_ 7 (.new 25 [.nilsl]) [],on_ (.store 1 (.t 7) (.t 28)) [6,4,2,0,1,2,3,4,6],om_ 8 29 [5,7,0,1,2,3,4,5,6,7]]) (.seq (.reg false [om_ 30 0 [],om_ 31 1 [],oo_ 32 (.call 16 [(.t 30),(.t 31)]) [0,1],om_ 9 32
 [2,2,0,1,2]]) (.seq (.seq (.reg false [om_ 33 0 [],oo_ 34 (.call 17 [(.t 33)]) [0],om_ 35 0 [],oo_ 36 (.call 16 [(.t 35),(.d (.int .i64 0))]) [2,1],oo_ 37 (.bin .eql (.t 36) (.d (.int .i64 0))) [3],oo_ 38 (.beq true (.t
 34) (.t 37)) [1,4]]) (.cond (.t 38) (.seq (.reg false [oo_ 4 (.mv (.d (.bool false))) []]) .ret) .skip)) (.seq (.seq (.reg false [om_ 39 9 [],oo_ 40 (.bin .neq (.t 39) (.d (.int .i64 0))) [0]]) (.cond (.t 40) (.seq
 (.reg false [om_ 41 6 [],om_ 42 9 [],oo_ 43 (.bin .eql (.t 41) (.t 42)) [0,1],om_ 44 43 [2],og_ 45 (.mv (.t 8)) 44 true [3],og_ 46 (.mv (.t 9)) 44 true [3],og_ 47 (.bin .eql (.t 45) (.t 46)) 44 true [4,5,3],oo_ 48
 (.pick (.t 44) (.t 47) (.d (.bool false))) [3,6],om_ 49 48 [7,3],og_ 50 (.load true 3 (.t 5)) 49 true [8],og_ 51 (.call 18 [(.t 50)]) 49 true [9,8,8],⟨some 52,.bin .eql (.t 51) (.d (.str ⟨#[48]⟩)),some
 (49,true),[10,8]⟩,oo_ 53 (.pick (.t 49) (.t 52) (.d (.bool false))) [8,11],om_ 54 53 [12,10],og_ 55 (.load true 1 (.t 7)) 54 true [13],og_ 56 (.call 19 [(.t 55)]) 54 true [14,13,13],oo_ 57 (.pick (.t 54) (.t 56) (.d
 (.bool false))) [13,15],om_ 4 57 [16,15,0,1,2,3,4,5,6,7,8,9,10,11,12,13,14,15,16]]) .ret) .skip)) (.seq (.reg false [om_ 59 0 [],om_ 60 1 [],oo_ 61 (.call 21 [(.t 59),(.t 60)]) [0,1],oo_ 62 (.call 20 [(.t 61)])
 [2,2],om_ 58 62 [3],oo_ 63 (.ext (.t 58) 0) [4],oo_ 64 (.ext (.t 58) 1) [4],oo_ 10 (.new 42 [.nilsl,(.bool false),.nilsl]) [],on_ (.store 3 (.t 10) (.t 63)) [7,5,3,0,1,2,3,4,5,7],om_ 11 64 [6,8,0,1,2,3,4,5,6,7,8]])
 (.seq (.seq (.reg false [om_ 65 6 [],oo_ 66 (.bin .neq (.t 65) (.d (.int .i64 0))) [0],om_ 67 66 [1],og_ 68 (.mv (.t 8)) 67 false [2],og_ 69 (.bin .neq (.t 68) (.d (.int .i64 0))) 67 false [3,2],oo_ 70 (.pick (.t 67)
 (.d (.bool true)) (.t 69)) [2,4],om_ 71 70 [5,2],og_ 72 (.mv (.t 11)) 71 false [6],og_ 73 (.bin .neq (.t 72) (.d (.int .i64 0))) 71 false [7,6],oo_ 74 (.pick (.t 71) (.d (.bool true)) (.t 73)) [6,8],om_ 75 74 [9,6],og_
 76 (.load true 3 (.t 5)) 75 false [10],og_ 77 (.load true 3 (.t 10)) 75 false [10],og_ 78 (.call 22 [(.t 76),(.t 77)]) 75 false [11,12,10,10],og_ 79 (.bin .neq (.t 78) (.d (.int .i64 0))) 75 false [13,10],oo_ 80 (.pick
 (.t 75) (.d (.bool true)) (.t 79)) [10,14]]) (.cond (.t 80) (.seq (.reg false [oo_ 4 (.mv (.d (.bool false))) []]) .ret) .skip)) (.seq (.seq (.reg false [om_ 81 1 [],oo_ 82 (.bin .gtr (.t 81) (.d (.int .i64 400))) [0]])
 (.cond (.t 82) (.seq (.reg false [om_ 84 0 [],om_ 85 1 [],oo_ 86 (.bin .sub (.t 85) (.d (.int .i64 1))) [1],oo_ 87 (.call 15 [(.t 84),(.t 86)]) [0,2],om_ 83 87 [3],oo_ 88 (.ext (.t 83) 0) [4],oo_ 89 (.ext (.t 83) 1)
 [4],oo_ 12 (.new 25 [.nilsl]) [],on_ (.store 1 (.t 12) (.t 88)) [7,5,3,0,1,2,3,4,5,7],om_ 13 89 [6,8,0,1,2,3,4,5,6,7,8]]) (.seq (.reg false [oo_ 91 (.bsl 34 1 1 [(.int .u64 0)] [(0,1,(.d (.int .u64 1)))]) [],oo_ 92
 (.call 10 [(.t 91)]) [0],om_ 93 0 [],om_ 94 1 [],oo_ 95 (.bin .sub (.t 94) (.d (.int .i64 1))) [3],oo_ 96 (.call 21 [(.t 93),(.t 95)]) [2,4,1],oo_ 97 (.call 11 [(.t 92),(.t 96)]) [1,5,5],om_ 90 97 [6],oo_ 98 (.ext (.t
 90) 0) [7],oo_ 99 (.ext (.t 90) 1) [7],oo_ 14 (.new 25 [.nilsl]) [],on_ (.store 1 (.t 14) (.t 98)) [10,8,6,0,1,2,3,4,5,6,7,8,10],om_ 15 99 [9,11,0,1,2,3,4,5,6,7,8,9,10,11]]) (.seq (.reg true [om_ 100 13 [],oo_ 101 (.bin
 .eql (.t 100) (.d (.int .i64 0))) [0],om_ 102 101 [1],og_ 103 (.mv (.t 15)) 102 true [2],og_ 104 (.bin .eql (.t 103) (.d (.int .i64 0))) 102 true [3,2],oo_ 105 (.pick (.t 102) (.t 104) (.d (.bool false))) [2,4],om_ 106
 105 [5,2],og_ 107 (.load true 1 (.t 12)) 106 true [6],og_ 108 (.load true 1 (.t 14)) 106 true [6],og_ 109 (.call 12 [(.t 107),(.t 108)]) 106 true [7,8,6,6],og_ 110 (.load true 1 (.t 7)) 106 true [6],og_ 111 (.call 8
 [(.t 109),(.t 110)]) 106 true [9,10,9,6],og_ 112 (.bin .eql (.t 111) (.d (.int .i64 0))) 106 true [11,6],oo_ 113 (.pick (.t 106) (.t 112) (.d (.bool false))) [6,12],om_ 4 113 [13,11,0,1,2,3,4,5,6,7,8,9,10,11,12,13]])
 .ret))) .skip)) (.seq (.reg true [oo_ 114 (.load true 1 (.t 7)) [],om_ 115 0 [],om_ 116 1 [],oo_ 117 (.call 24 [(.t 115),(.t 116)]) [1,2],oo_ 118 (.call 23 [(.t 114),(.t 117)]) [0,3,3],om_ 4 118 [4,4,0,1,2,3,4]])
 .ret)))))))))))
theorem o_6i : fnOf Tryd.prog o_6g = some (o_6h, [.t 4], 119, false) := by kernel_rfl

abbrev o_6j : FuncId := 8
def o_6k : C := (.seq (.reg false [oo_ 2 (.box 25 (.t 0)) [],oo_ 3 (.box 25 (.t 1)) [],oo_ 4 (.mv (.d (.int .i64 0))) []]) (.seq (.seq (.reg false [oo_ 9 (.fa 0 (.t 2)) [],oo_ 10 (.load false 1 (.t 9)) [0],oo_ 11 (.len (.t 10)) [1],oo_
 12 (.fa 0 (.t 3)) [],oo_ 13 (.load false 1 (.t 12)) [3],oo_ 14 (.len (.t 13)) [4],oo_ 15 (.bin .sub (.t 11) (.t 14)) [2,5],om_ 5 15 [6,0,1,2,3,4,5,6]]) (.seq (.reg false [om_ 16 5 [],oo_ 17 (.bin .neq (.t 16) (.d (.int
 .i64 0))) [0]]) (.cond (.t 17) (.seq (.reg false [om_ 18 5 [],oo_ 19 (.mm false [(.t 18),(.d (.int .i64 1))]) [0],oo_ 20 (.mm true [(.d (.int .i64 (-1))),(.t 19)]) [1],om_ 4 20 [2,0,1,2]]) .ret) .skip))) (.seq (.seq
 (.reg false [oo_ 21 (.fa 0 (.t 2)) [],oo_ 22 (.load false 1 (.t 21)) [0],oo_ 23 (.len (.t 22)) [1],oo_ 24 (.bin .sub (.t 23) (.d (.int .i64 1))) [2],om_ 6 24 [3,0,1,2,3]]) (.block 0 (.loop (.seq (.seq (.reg false [om_
 25 6 [],oo_ 26 (.bin .geq (.t 25) (.d (.int .i64 0))) [0]]) (.cond (.t 26) .skip (.exit 0))) (.seq (.block 1 (.seq (.reg true [oo_ 29 (.fa 0 (.t 2)) [],oo_ 30 (.load false 1 (.t 29)) [0],om_ 31 6 [],oo_ 32 (.ix 1 (.t
 30) (.t 31)) [1,2],oo_ 33 (.load false 1 (.t 32)) [3],oo_ 34 (.fa 0 (.t 3)) [],oo_ 35 (.load false 1 (.t 34)) [5],om_ 36 6 [],oo_ 37 (.ix 1 (.t 35) (.t 36)) [6,7],oo_ 38 (.load false 1 (.t 37)) [8],om_ 7 33
 [4,0,1,2,3,4],om_ 8 38 [9,10,0,1,2,3,4,5,6,7,8,9,10]]) (.block 2 (.seq (.reg false [om_ 40 7 [],om_ 41 8 [],oo_ 42 (.bin .lss (.t 40) (.t 41)) [0,1],om_ 39 42 [2]]) (.cond (.t 39) (.seq (.reg false [oo_ 4 (.mv (.d (.int
 .i64 (-1)))) []]) .ret) (.seq (.reg false [om_ 44 7 [],om_ 45 8 [],oo_ 46 (.bin .gtr (.t 44) (.t 45)) [0,1],om_ 43 46 [2]]) (.cond (.t 43) (.seq (.reg false [oo_ 4 (.mv (.d (.int .i64 1))) []]) .ret) .skip))))))) (.reg
 false [om_ 27 6 [],oo_ 28 (.bin .sub (.t 27) (.d (.int .i64 1))) [0],om_ 6 28 [1,0,1]])))))) (.seq (.reg false [oo_ 4 (.mv (.d (.int .i64 0))) []]) .ret))))
theorem o_6l : fnOf Tryd.prog o_6j = some (o_6k, [.t 4], 47, false) := by kernel_rfl

abbrev o_6m : FuncId := 9
def o_6n : C := (.seq (.reg false [oo_ 1 (.box 25 (.t 0)) [],⟨some 2,.mv (.d (.str ⟨#[]⟩)),none,[]⟩]) (.seq (.seq (.reg false [oo_ 8 (.load true 1 (.t 1)) [],oo_ 9 (.call 19 [(.t 8)]) [0]]) (.cond (.t 9) (.seq (.reg false [⟨some 2,.mv
 (.d (.str ⟨#[48]⟩)),none,[]⟩]) .ret) .skip)) (.seq (.reg false [⟨some 3,.mv (.d (.str ⟨#[]⟩)),none,[]⟩]) (.seq (.seq (.reg false [oo_ 10 (.fa 0 (.t 1)) [],oo_ 11 (.load false 1 (.t 10)) [0],om_ 4 11 [1,0,1]]) (.block 0
 (.loop (.seq (.seq (.reg false [om_ 12 4 [],oo_ 13 (.len (.t 12)) [0],oo_ 14 (.bin .gtr (.t 13) (.d (.int .i64 0))) [1]]) (.cond (.t 14) .skip (.exit 0))) (.block 1 (.seq (.reg false [om_ 16 4 [],oo_ 17 (.call 30 [(.t
 16),(.d (.int .u64 1000000000000000000))]) [0],om_ 15 17 [1],oo_ 18 (.ext (.t 15) 0) [2],oo_ 19 (.ext (.t 15) 1) [2],om_ 5 18 [3,1,0,1,2,3],om_ 6 19 [4,5,0,1,2,3,4,5]]) (.seq (.reg false [om_ 20 5 [],oo_ 21 (.call 31
 [(.t 20)]) [0],oo_ 22 (.fld false 0 1 (.t 21)) [1],om_ 4 22 [2,1,0,1,2]]) (.seq (.reg false [om_ 23 6 [],oo_ 24 (.call 32 [(.t 23),(.d (.int .i64 10))]) [0],om_ 7 24 [1,1,0,1]]) (.seq (.seq (.reg false [om_ 25 4 [],oo_
 26 (.len (.t 25)) [0],oo_ 27 (.bin .gtr (.t 26) (.d (.int .i64 0))) [1]]) (.cond (.t 27) (.reg false [om_ 28 7 [],oo_ 29 (.lens (.t 28)) [0],oo_ 30 (.bin .sub (.d (.int .i64 18)) (.t 29)) [1],⟨some 31,.call 33 [(.d
 (.str ⟨#[48]⟩)),(.t 30)],none,[2]⟩,om_ 32 7 [],oo_ 33 (.bin .add (.t 31) (.t 32)) [3,4],om_ 7 33 [5,3,0,1,2,3,4,5]]) .skip)) (.reg false [om_ 34 7 [],om_ 35 3 [],oo_ 36 (.bin .add (.t 34) (.t 35)) [0,1],om_ 3 36
 [2,0,1,2]])))))))))) (.seq (.reg false [om_ 37 3 [],om_ 2 37 [0,0]]) .ret)))))
theorem o_6o : fnOf Tryd.prog o_6m = some (o_6n, [.t 2], 38, false) := by kernel_rfl

abbrev o_6p : FuncId := 10
def o_6q : C := (.seq (.reg false [oo_ 2 (.new 25 [.nilsl]) []]) (.seq (.reg false [om_ 3 0 [],oo_ 4 (.call 34 [(.t 3)]) [0],oo_ 5 (.call 31 [(.t 4)]) [1,1],on_ (.store 1 (.t 2) (.t 5)) [2,2,0,1,2]]) .ret))
theorem o_6r : fnOf Tryd.prog o_6p = some (o_6q, [.cell 2 true 1], 6, false) := by kernel_rfl

abbrev o_6s : FuncId := 11
def o_6t : C := (.seq (.reg false [oo_ 2 (.box 25 (.t 0)) [],oo_ 4 (.new 25 [.nilsl]) [],oo_ 5 (.mv (.d (.int .i64 0))) []]) (.seq (.seq (.reg false [om_ 6 1 [],oo_ 7 (.bin .lss (.t 6) (.d (.int .i64 0))) [0],om_ 8 7 [1],og_ 9 (.mv (.t
 1)) 8 false [2],og_ 10 (.bin .gtr (.t 9) (.d (.int .i64 8192))) 8 false [3,2],oo_ 11 (.pick (.t 8) (.d (.bool true)) (.t 10)) [2,4]]) (.cond (.t 11) (.seq (.reg false [oo_ 12 (.build [.nilsl] []) [],on_ (.store 1 (.t 4)
 (.t 12)) [0,0],oo_ 5 (.mv (.d (.int .i64 2))) [1,0,1]]) .ret) .skip)) (.seq (.reg true [om_ 13 1 [],oo_ 14 (.bin .quo (.t 13) (.d (.int .i64 64))) [0],oo_ 15 (.mksl 34 1 8 [(.int .u64 0)] (.t 14) (.t 14)) [1,1],oo_ 16
 (.fa 0 (.t 2)) [],oo_ 17 (.load false 1 (.t 16)) [3],om_ 18 1 [],oo_ 19 (.bin .rem (.t 18) (.d (.int .i64 64))) [5],oo_ 20 (.call 35 [(.t 17),(.t 19)]) [4,6],oo_ 21 (.app 34 1 8 (.t 15) (.t 20)) [2,7,7],oo_ 22 (.call 31
 [(.t 21)]) [8,8],on_ (.store 1 (.t 4) (.t 22)) [9,9,0,1,2,3,4,5,6,7,8,9],oo_ 5 (.mv (.d (.int .i64 0))) [10,0,1,2,3,4,5,6,7,8,9,10]]) .ret)))
theorem o_6u : fnOf Tryd.prog o_6s = some (o_6t, [.cell 4 true 1, .t 5], 23, false) := by kernel_rfl

abbrev o_6v : FuncId := 12
def o_6w : C := (.seq (.reg false [oo_ 2 (.box 25 (.t 0)) [],oo_ 3 (.box 25 (.t 1)) [],oo_ 4 (.new 25 [.nilsl]) []]) (.seq (.seq (.reg false [oo_ 10 (.fa 0 (.t 2)) [],oo_ 11 (.load false 1 (.t 10)) [0],oo_ 12 (.len (.t 11)) [1],oo_ 13
 (.fa 0 (.t 3)) [],oo_ 14 (.load false 1 (.t 13)) [3],oo_ 15 (.len (.t 14)) [4],oo_ 16 (.bin .lss (.t 12) (.t 15)) [2,5]]) (.cond (.t 16) (.reg false [oo_ 17 (.load true 1 (.t 3)) [],oo_ 18 (.load true 1 (.t 2)) [],on_
 (.store 1 (.t 2) (.t 17)) [0,0,1],on_ (.store 1 (.t 3) (.t 18)) [1,2,0,1,2]]) .skip)) (.seq (.reg false [oo_ 19 (.fa 0 (.t 2)) [],oo_ 20 (.load false 1 (.t 19)) [0],oo_ 21 (.len (.t 20)) [1],oo_ 22 (.bin .add (.t 21)
 (.d (.int .i64 1))) [2],oo_ 23 (.mksl 34 1 8 [(.int .u64 0)] (.t 22) (.t 22)) [3,3],om_ 5 23 [4,0,1,2,3,4]]) (.seq (.reg false [oo_ 6 (.mv (.d (.int .u64 0))) []]) (.seq (.seq (.reg false [oo_ 24 (.fa 0 (.t 2)) [],oo_
 25 (.load false 1 (.t 24)) [0],oo_ 26 (.len (.t 25)) [1],oo_ 27 (.mv (.d (.int .i64 0))) []]) (.block 0 (.loop (.seq (.reg false [oo_ 28 (.bin .lss (.t 27) (.t 26)) []]) (.seq (.cond (.t 28) .skip (.exit 0)) (.seq
 (.block 1 (.seq (.reg false [om_ 29 27 [],oo_ 30 (.ix 1 (.t 25) (.t 27)) [],oo_ 31 (.load false 1 (.t 30)) [1],om_ 7 29 [0,0,1,2],om_ 8 31 [2,3,0,1,2,3]]) (.seq (.reg false [oo_ 9 (.mv (.d (.int .u64 0))) []]) (.seq
 (.seq (.reg false [om_ 32 7 [],oo_ 33 (.fa 0 (.t 3)) [],oo_ 34 (.load false 1 (.t 33)) [1],oo_ 35 (.len (.t 34)) [2],oo_ 36 (.bin .lss (.t 32) (.t 35)) [0,3]]) (.cond (.t 36) (.reg false [oo_ 37 (.fa 0 (.t 3)) [],oo_ 38
 (.load false 1 (.t 37)) [0],om_ 39 7 [],oo_ 40 (.ix 1 (.t 38) (.t 39)) [1,2],oo_ 41 (.load false 1 (.t 40)) [3],om_ 9 41 [4,0,1,2,3,4]]) .skip)) (.reg false [om_ 43 5 [],om_ 44 7 [],om_ 45 8 [],om_ 46 9 [],om_ 47 6
 [],oo_ 48 (.call 36 [(.t 45),(.t 46),(.t 47)]) [2,3,4],om_ 42 48 [5],oo_ 49 (.ext (.t 42) 0) [6],oo_ 50 (.ext (.t 42) 1) [6],oo_ 51 (.ix 1 (.t 43) (.t 44)) [0,1,0,1,2,3,4,5,6,7],on_ (.store 1 (.t 51) (.t 49))
 [9,7,5,0,1,2,3,4,5,6,7],om_ 6 50 [8,10,0,1,2,3,4,5,6,7,8,9,10]]))))) (.reg false [oo_ 52 (.bin .add (.t 27) (.d (.int .i64 1))) [],om_ 27 52 [0]]))))))) (.seq (.reg false [om_ 53 5 [],oo_ 54 (.fa 0 (.t 2)) [],oo_ 55
 (.load false 1 (.t 54)) [1],oo_ 56 (.len (.t 55)) [2],om_ 57 6 [],oo_ 58 (.ix 1 (.t 53) (.t 56)) [0,3,0,1,2,3,4],on_ (.store 1 (.t 58) (.t 57)) [5,4,0,1,2,3,4]]) (.seq (.reg false [om_ 59 5 [],oo_ 60 (.call 31 [(.t
 59)]) [0],on_ (.store 1 (.t 4) (.t 60)) [1,1,0,1]]) .ret)))))))
theorem o_6x : fnOf Tryd.prog o_6v = some (o_6w, [.cell 4 true 1], 61, false) := by kernel_rfl

abbrev o_6y : FuncId := 13
def o_6z : C := (.seq (.reg false [oo_ 0 (.mv (.d (.bool false))) []]) (.seq (.reg false [oo_ 6 (.call 15 [(.d (.int .i64 1)),(.d (.int .i64 5))]) [],om_ 5 6 [0],oo_ 7 (.ext (.t 5) 0) [1],oo_ 8 (.ext (.t 5) 1) [1],oo_ 1 (.new 25
 [.nilsl]) [],on_ (.store 1 (.t 1) (.t 7)) [4,2,0,0,1,2,4],om_ 2 8 [3,5,0,1,2,3,4,5]]) (.seq (.reg false [oo_ 10 (.call 14 [(.d (.int .i64 1)),(.d (.int .i64 4))]) [],om_ 9 10 [0],oo_ 11 (.ext (.t 9) 0) [1],oo_ 12 (.ext
 (.t 9) 1) [1],oo_ 3 (.new 42 [.nilsl,(.bool false),.nilsl]) [],on_ (.store 3 (.t 3) (.t 11)) [4,2,0,0,1,2,4],om_ 4 12 [3,5,0,1,2,3,4,5]]) (.seq (.reg false [om_ 13 2 [],oo_ 14 (.bin .eql (.t 13) (.d (.int .i64 0)))
 [0],om_ 15 14 [1],og_ 16 (.mv (.t 4)) 15 true [2],og_ 17 (.bin .eql (.t 16) (.d (.int .i64 0))) 15 true [3,2],oo_ 18 (.pick (.t 15) (.t 17) (.d (.bool false))) [2,4],om_ 19 18 [5,2],og_ 20 (.load true 1 (.t 1)) 19 true
 [6],og_ 21 (.call 9 [(.t 20)]) 19 true [7,6,6],⟨some 22,.bin .eql (.t 21) (.d (.str ⟨#[49,48]⟩)),some (19,true),[8,6]⟩,oo_ 23 (.pick (.t 19) (.t 22) (.d (.bool false))) [6,9],om_ 24 23 [10,8],og_ 25 (.load true 3 (.t
 3)) 24 true [11],og_ 26 (.call 18 [(.t 25)]) 24 true [12,11,11],⟨some 27,.bin .eql (.t 26) (.d (.str ⟨#[49,47,52]⟩)),some (24,true),[13,11]⟩,oo_ 28 (.pick (.t 24) (.t 27) (.d (.bool false))) [11,14],om_ 29 28
 [15,13],og_ 30 (.call 17 [(.d (.int .i64 8))]) 29 true [16,16],oo_ 31 (.pick (.t 29) (.t 30) (.d (.bool false))) [16,17],om_ 0 31 [18,17,0,1,2,3,4,5,6,7,8,9,10,11,12,13,14,15,16,17,18]]) .ret))))
theorem o_70 : fnOf Tryd.prog o_6y = some (o_6z, [.t 0], 32, false) := by kernel_rfl

abbrev o_71 : FuncId := 14
def o_72 : C := (.seq (.reg false [oo_ 4 (.new 42 [.nilsl,(.bool false),.nilsl]) [],oo_ 5 (.mv (.d (.int .i64 0))) []]) (.seq (.seq (.reg false [om_ 9 0 [],om_ 10 1 [],oo_ 11 (.bsl 3 1 1 [(.int .i64 0)] [(0,1,(.t 10))]) [1],oo_ 12
 (.call 37 [(.t 9),(.t 11)]) [0,2],om_ 6 12 [3,3,0,1,2,3]]) (.seq (.reg false [om_ 13 6 [],oo_ 14 (.bin .neq (.t 13) (.d (.int .i64 0))) [0]]) (.cond (.t 14) (.seq (.reg false [oo_ 15 (.build [.nilsl,(.bool
 false),.nilsl] []) [],om_ 16 6 [],on_ (.store 3 (.t 4) (.t 15)) [0,0],om_ 5 16 [1,2,0,1,2]]) .ret) .skip))) (.seq (.reg false [om_ 18 0 [],om_ 19 1 [],oo_ 20 (.call 38 [(.t 18),(.t 19)]) [0,1],om_ 17 20 [2],oo_ 21 (.ext
 (.t 17) 0) [3],oo_ 22 (.ext (.t 17) 1) [3],om_ 7 21 [4,2,0,1,2,3,4],om_ 8 22 [5,6,0,1,2,3,4,5,6]]) (.seq (.reg false [om_ 23 7 [],oo_ 24 (.call 20 [(.t 23)]) [0],oo_ 25 (.ext (.t 24) 0) [1],oo_ 26 (.ext (.t 24) 1)
 [1],on_ (.store 3 (.t 4) (.t 25)) [2,1,0,1,2,3],om_ 5 26 [3,4,0,1,2,3,4]]) .ret))))
theorem o_73 : fnOf Tryd.prog o_71 = some (o_72, [.cell 4 true 3, .t 5], 27, false) := by kernel_rfl

abbrev o_74 : FuncId := 15
def o_75 : C := (.seq (.reg false [oo_ 4 (.new 25 [.nilsl]) [],oo_ 5 (.mv (.d (.int .i64 0))) []]) (.seq (.seq (.reg false [om_ 11 0 [],om_ 12 1 [],oo_ 13 (.bsl 3 1 1 [(.int .i64 0)] [(0,1,(.t 12))]) [1],oo_ 14 (.call 37 [(.t 11),(.t
 13)]) [0,2],om_ 6 14 [3,3,0,1,2,3]]) (.seq (.reg false [om_ 15 6 [],oo_ 16 (.bin .neq (.t 15) (.d (.int .i64 0))) [0]]) (.cond (.t 16) (.seq (.reg false [oo_ 17 (.build [.nilsl] []) [],om_ 18 6 [],on_ (.store 1 (.t 4)
 (.t 17)) [0,0],om_ 5 18 [1,2,0,1,2]]) .ret) .skip))) (.seq (.reg false [om_ 20 0 [],om_ 21 1 [],oo_ 22 (.call 38 [(.t 20),(.t 21)]) [0,1],om_ 19 22 [2],oo_ 23 (.ext (.t 19) 0) [3],oo_ 24 (.ext (.t 19) 1) [3],om_ 7 23
 [4,2,0,1,2,3,4],om_ 8 24 [5,6,0,1,2,3,4,5,6]]) (.seq (.reg false [om_ 26 0 [],oo_ 27 (.bin .shl (.d (.int .i64 1)) (.t 26)) [0],om_ 28 8 [],oo_ 29 (.bin .add (.t 27) (.t 28)) [1,2],oo_ 30 (.conv .u64 (.t 29)) [3],oo_ 31
 (.bsl 34 1 1 [(.int .u64 0)] [(0,1,(.t 30))]) [4],oo_ 32 (.call 10 [(.t 31)]) [5],om_ 33 7 [],oo_ 34 (.call 11 [(.t 32),(.t 33)]) [6,7,6],om_ 25 34 [8],oo_ 35 (.ext (.t 25) 0) [9],oo_ 36 (.ext (.t 25) 1) [9],oo_ 9 (.new
 25 [.nilsl]) [],on_ (.store 1 (.t 9) (.t 35)) [12,10,8,0,1,2,3,4,5,6,7,8,9,10,12],om_ 10 36 [11,13,0,1,2,3,4,5,6,7,8,9,10,11,12,13]]) (.seq (.reg true [oo_ 37 (.load true 1 (.t 9)) [],om_ 38 0 [],oo_ 39 (.bin .shl (.d
 (.int .u64 1)) (.t 38)) [1],oo_ 40 (.bsl 34 1 1 [(.int .u64 0)] [(0,1,(.t 39))]) [2],oo_ 41 (.call 10 [(.t 40)]) [3],oo_ 42 (.call 39 [(.t 37),(.t 41)]) [0,4,4],oo_ 43 (.ext (.t 42) 0) [5],oo_ 44 (.ext (.t 42) 1)
 [5],on_ (.store 1 (.t 4) (.t 43)) [6,5,0,1,2,3,4,5,6,7],om_ 5 44 [7,8,0,1,2,3,4,5,6,7,8]]) .ret)))))
theorem o_76 : fnOf Tryd.prog o_74 = some (o_75, [.cell 4 true 1, .t 5], 45, false) := by kernel_rfl

abbrev o_77 : FuncId := 16
def o_78 : C := (.seq (.reg false [oo_ 4 (.mv (.d (.int .i64 0))) []]) (.seq (.seq (.reg false [om_ 5 0 [],oo_ 6 (.bin .lss (.t 5) (.d (.int .i64 0))) [0],om_ 7 6 [1],og_ 8 (.mv (.t 0)) 7 false [2],og_ 9 (.bin .gtr (.t 8) (.d (.int
 .i64 8))) 7 false [3,2],oo_ 10 (.pick (.t 7) (.d (.bool true)) (.t 9)) [2,4]]) (.cond (.t 10) (.seq (.reg false [oo_ 4 (.mv (.d (.int .i64 10))) []]) .ret) .skip)) (.seq (.seq (.reg false [om_ 11 1 [],oo_ 12 (.bin .lss
 (.t 11) (.d (.int .i64 0))) [0],om_ 13 12 [1],og_ 14 (.mv (.t 1)) 13 false [2],og_ 15 (.bin .gtr (.t 14) (.d (.int .i64 1023))) 13 false [3,2],oo_ 16 (.pick (.t 13) (.d (.bool true)) (.t 15)) [2,4]]) (.cond (.t 16)
 (.seq (.reg false [oo_ 4 (.mv (.d (.int .i64 2))) []]) .ret) .skip)) (.seq (.reg false [oo_ 4 (.mv (.d (.int .i64 0))) []]) .ret))))
theorem o_79 : fnOf Tryd.prog o_77 = some (o_78, [.t 4], 17, false) := by kernel_rfl

abbrev o_7a : FuncId := 17
def o_7b : C := (.seq (.reg false [oo_ 2 (.mv (.d (.bool false))) []]) (.seq (.reg false [om_ 3 0 [],oo_ 4 (.bin .geq (.t 3) (.d (.int .i64 0))) [0],om_ 5 4 [1],og_ 6 (.mv (.t 0)) 5 true [2],og_ 7 (.bin .leq (.t 6) (.d (.int .i64 8)))
 5 true [3,2],oo_ 8 (.pick (.t 5) (.t 7) (.d (.bool false))) [2,4],om_ 2 8 [5,2,0,1,2,3,4,5]]) .ret))
theorem o_7c : fnOf Tryd.prog o_7a = some (o_7b, [.t 2], 9, false) := by kernel_rfl

abbrev o_7d : FuncId := 18
def o_7e : C := (.seq (.reg false [oo_ 1 (.box 42 (.t 0)) [],⟨some 2,.mv (.d (.str ⟨#[]⟩)),none,[]⟩]) (.seq (.seq (.reg false [oo_ 3 (.load true 3 (.t 1)) [],oo_ 4 (.call 40 [(.t 3)]) [0]]) (.cond (.t 4) (.seq (.reg false [oo_ 5 (.fa 0
 (.t 1)) [],oo_ 6 (.load true 2 (.t 5)) [0],oo_ 7 (.call 41 [(.t 6)]) [1],om_ 2 7 [2,2,0,1,2]]) .ret) .skip)) (.seq (.reg true [oo_ 8 (.fa 0 (.t 1)) [],oo_ 9 (.load true 2 (.t 8)) [0],oo_ 10 (.call 41 [(.t 9)]) [1],⟨some
 11,.bin .add (.t 10) (.d (.str ⟨#[47]⟩)),none,[2]⟩,oo_ 12 (.load true 3 (.t 1)) [],oo_ 13 (.call 42 [(.t 12)]) [4,2],oo_ 14 (.call 9 [(.t 13)]) [5,5],oo_ 15 (.bin .add (.t 11) (.t 14)) [3,6],om_ 2 15
 [7,6,0,1,2,3,4,5,6,7]]) .ret)))
theorem o_7f : fnOf Tryd.prog o_7d = some (o_7e, [.t 2], 16, false) := by kernel_rfl

abbrev o_7g : FuncId := 19
def o_7h : C := (.seq (.reg false [oo_ 1 (.box 25 (.t 0)) [],oo_ 2 (.mv (.d (.bool false))) []]) (.seq (.reg false [oo_ 3 (.fa 0 (.t 1)) [],oo_ 4 (.load false 1 (.t 3)) [0],oo_ 5 (.len (.t 4)) [1],oo_ 6 (.bin .eql (.t 5) (.d (.int .i64
 0))) [2],om_ 2 6 [3,0,1,2,3]]) .ret))
theorem o_7i : fnOf Tryd.prog o_7g = some (o_7h, [.t 2], 7, false) := by kernel_rfl

abbrev o_7j : FuncId := 20
def o_7k : C := (.seq (.reg false [oo_ 2 (.new 42 [.nilsl,(.bool false),.nilsl]) [],oo_ 3 (.mv (.d (.int .i64 0))) []]) (.seq (.reg false [oo_ 7 (.bsl 34 1 1 [(.int .u64 0)] [(0,1,(.d (.int .u64 1)))]) [],oo_ 8 (.call 10 [(.t 7)])
 [0],om_ 9 0 [],oo_ 10 (.call 11 [(.t 8),(.t 9)]) [1,2,1],om_ 6 10 [3],oo_ 11 (.ext (.t 6) 0) [4],oo_ 12 (.ext (.t 6) 1) [4],oo_ 4 (.new 25 [.nilsl]) [],on_ (.store 1 (.t 4) (.t 11)) [7,5,3,0,1,2,3,4,5,7],om_ 5 12
 [6,8,0,1,2,3,4,5,6,7,8]]) (.seq (.seq (.reg false [om_ 13 5 [],oo_ 14 (.bin .neq (.t 13) (.d (.int .i64 0))) [0]]) (.cond (.t 14) (.seq (.reg false [oo_ 15 (.build [.nilsl,(.bool false),.nilsl] []) [],om_ 16 5 [],on_
 (.store 3 (.t 2) (.t 15)) [0,0],om_ 3 16 [1,2,0,1,2]]) .ret) .skip)) (.seq (.reg true [oo_ 17 (.call 44 [(.d (.int .i64 1))]) [],oo_ 18 (.load true 1 (.t 4)) [],oo_ 19 (.call 43 [(.t 17),(.t 18)]) [0,1,0],on_ (.store 3
 (.t 2) (.t 19)) [2,2,0,1,2],oo_ 3 (.mv (.d (.int .i64 0))) [3,0,1,2,3]]) .ret))))
theorem o_7l : fnOf Tryd.prog o_7j = some (o_7k, [.cell 2 true 3, .t 3], 20, false) := by kernel_rfl

abbrev o_7m : FuncId := 21
def o_7n : C := (.seq (.reg false [oo_ 4 (.mv (.d (.int .i64 0))) []]) (.seq (.reg false [om_ 5 1 [],om_ 6 0 [],oo_ 7 (.call 45 [(.t 6)]) [1],oo_ 8 (.bin .quo (.t 5) (.t 7)) [0,2],om_ 4 8 [3,2,0,1,2,3]]) .ret))
theorem o_7o : fnOf Tryd.prog o_7m = some (o_7n, [.t 4], 9, false) := by kernel_rfl

abbrev o_7p : FuncId := 22
def o_7q : C := (.seq (.reg false [oo_ 2 (.box 42 (.t 0)) [],oo_ 3 (.box 42 (.t 1)) [],oo_ 4 (.mv (.d (.int .i64 0))) []]) (.seq (.reg true [oo_ 5 (.fa 0 (.t 2)) [],oo_ 6 (.load true 2 (.t 5)) [0],oo_ 7 (.load true 3 (.t 3)) [],oo_ 8
 (.call 48 [(.t 7)]) [2],oo_ 9 (.call 47 [(.t 6),(.t 8)]) [1,3,3],oo_ 10 (.fa 0 (.t 3)) [],oo_ 11 (.load true 2 (.t 10)) [5],oo_ 12 (.load true 3 (.t 2)) [],oo_ 13 (.call 48 [(.t 12)]) [7,4],oo_ 14 (.call 47 [(.t 11),(.t
 13)]) [6,8,8],oo_ 15 (.call 46 [(.t 9),(.t 14)]) [4,9,9],om_ 4 15 [10,10,0,1,2,3,4,5,6,7,8,9,10]]) .ret))
theorem o_7r : fnOf Tryd.prog o_7p = some (o_7q, [.t 4], 16, false) := by kernel_rfl

abbrev o_7s : FuncId := 23
def o_7t : C := (.seq (.reg false [oo_ 2 (.box 25 (.t 0)) [],oo_ 4 (.mv (.d (.bool false))) []]) (.seq (.reg false [oo_ 5 (.load true 1 (.t 2)) [],oo_ 6 (.call 9 [(.t 5)]) [0],om_ 7 1 [],oo_ 8 (.call 49 [(.t 7)]) [2,1],oo_ 9 (.bin .eql
 (.t 6) (.t 8)) [1,3],om_ 4 9 [4,3,0,1,2,3,4]]) .ret))
theorem o_7u : fnOf Tryd.prog o_7s = some (o_7t, [.t 4], 10, false) := by kernel_rfl

abbrev o_7v : FuncId := 24
def o_7w : C := (.seq (.reg false [oo_ 4 (.mv (.d .nilsl)) []]) (.seq (.reg false [oo_ 5 (.mv (.d .nilsl)) []]) (.seq (.reg false [oo_ 8 (.call 50 [(.d (.int .i64 1))]) [],om_ 6 8 [0,0,0]]) (.seq (.seq (.reg false [oo_ 7 (.mv (.d (.int
 .i64 0))) []]) (.block 0 (.loop (.seq (.seq (.reg false [om_ 9 7 [],om_ 10 1 [],oo_ 11 (.bin .lss (.t 9) (.t 10)) [0,1]]) (.cond (.t 11) .skip (.exit 0))) (.seq (.block 1 (.seq (.seq (.reg false [om_ 14 7 [],oo_ 15
 (.bin .gtr (.t 14) (.d (.int .i64 0))) [0],om_ 16 15 [1],og_ 17 (.mv (.t 7)) 16 true [2],og_ 18 (.mv (.t 0)) 16 true [2],og_ 19 (.call 45 [(.t 18)]) 16 true [4,2,2],og_ 20 (.bin .rem (.t 17) (.t 19)) 16 true [3,5,2],og_
 21 (.bin .eql (.t 20) (.d (.int .i64 0))) 16 true [6,2],oo_ 22 (.pick (.t 16) (.t 21) (.d (.bool false))) [2,7]]) (.cond (.t 22) (.reg false [om_ 23 6 [],om_ 24 6 [],oo_ 25 (.call 51 [(.t 23),(.t 24)]) [0,1],om_ 6 25
 [2,2,0,1,2]]) .skip)) (.reg false [om_ 26 5 [],om_ 27 6 [],oo_ 28 (.call 51 [(.t 26),(.t 27)]) [0,1],om_ 5 28 [2,2,0,1,2]]))) (.reg false [om_ 12 7 [],oo_ 13 (.bin .add (.t 12) (.d (.int .i64 1))) [0],om_ 7 13
 [1,0,1]])))))) (.seq (.reg false [om_ 29 5 [],om_ 4 29 [0,0]]) .ret)))))
theorem o_7x : fnOf Tryd.prog o_7v = some (o_7w, [.t 4], 30, false) := by kernel_rfl

abbrev o_7y : FuncId := 30
def o_7z : C := (.seq (.reg false [oo_ 4 (.mv (.d .nilsl)) [],oo_ 5 (.mv (.d (.int .u64 0))) [0]]) (.seq (.reg false [om_ 9 0 [],oo_ 10 (.len (.t 9)) [0],oo_ 11 (.mksl 34 1 8 [(.int .u64 0)] (.t 10) (.t 10)) [1,1],om_ 6 11 [2,0,1,2]])
 (.seq (.reg false [oo_ 7 (.mv (.d (.int .u64 0))) []]) (.seq (.seq (.reg false [om_ 12 0 [],oo_ 13 (.len (.t 12)) [0],oo_ 14 (.bin .sub (.t 13) (.d (.int .i64 1))) [1],om_ 8 14 [2,0,1,2]]) (.block 0 (.loop (.seq (.seq
 (.reg false [om_ 15 8 [],oo_ 16 (.bin .geq (.t 15) (.d (.int .i64 0))) [0]]) (.cond (.t 16) .skip (.exit 0))) (.seq (.block 1 (.reg false [om_ 20 6 [],om_ 21 8 [],om_ 22 7 [],om_ 23 0 [],om_ 24 8 [],oo_ 25 (.ix 1 (.t
 23) (.t 24)) [3,4],oo_ 26 (.load false 1 (.t 25)) [5],om_ 27 1 [],oo_ 28 (.call 58 [(.t 22),(.t 26),(.t 27)]) [2,6,7],om_ 19 28 [8],oo_ 29 (.ext (.t 19) 0) [9],oo_ 30 (.ext (.t 19) 1) [9],oo_ 31 (.ix 1 (.t 20) (.t 21))
 [0,1,0,1,2,3,4,5,6,7,8,9,10],on_ (.store 1 (.t 31) (.t 29)) [12,10,8,0,1,2,3,4,5,6,7,8,9,10],om_ 7 30 [11,13,0,1,2,3,4,5,6,7,8,9,10,11,12,13]])) (.reg false [om_ 17 8 [],oo_ 18 (.bin .sub (.t 17) (.d (.int .i64 1)))
 [0],om_ 8 18 [1,0,1]])))))) (.seq (.reg false [om_ 32 6 [],om_ 33 7 [],om_ 4 32 [0,0],om_ 5 33 [1,2,0,1,2]]) .ret)))))
theorem o_80 : fnOf Tryd.prog o_7y = some (o_7z, [.t 4, .t 5], 34, false) := by kernel_rfl

abbrev o_81 : FuncId := 31
def o_82 : C := (.seq (.reg false [oo_ 2 (.new 25 [.nilsl]) []]) (.seq (.reg false [om_ 4 0 [],oo_ 5 (.len (.t 4)) [0],om_ 3 5 [1,0,1]]) (.seq (.block 0 (.loop (.seq (.seq (.reg false [om_ 6 3 [],oo_ 7 (.bin .gtr (.t 6) (.d (.int .i64
 0))) [0],om_ 8 7 [1],og_ 9 (.mv (.t 0)) 8 true [2],og_ 10 (.mv (.t 3)) 8 true [2],og_ 11 (.bin .sub (.t 10) (.d (.int .i64 1))) 8 true [4,2],og_ 12 (.ix 1 (.t 9) (.t 11)) 8 true [3,5,2],og_ 13 (.load false 1 (.t 12)) 8
 true [6,2],og_ 14 (.bin .eql (.t 13) (.d (.int .u64 0))) 8 true [7,2],oo_ 15 (.pick (.t 8) (.t 14) (.d (.bool false))) [2,8]]) (.cond (.t 15) .skip (.exit 0))) (.block 1 (.reg false [om_ 16 3 [],oo_ 17 (.bin .sub (.t
 16) (.d (.int .i64 1))) [0],om_ 3 17 [1,0,1]]))))) (.seq (.reg false [om_ 18 0 [],om_ 19 3 [],oo_ 20 (.slice 1 (.t 18) none (some (.t 19)) none) [0,1],oo_ 21 (.build [.nilsl] [(0,1,(.t 20))]) [2],on_ (.store 1 (.t 2)
 (.t 21)) [3,0,1,2,3]]) .ret))))
theorem o_83 : fnOf Tryd.prog o_81 = some (o_82, [.cell 2 true 1], 22, false) := by kernel_rfl

abbrev o_84 : FuncId := 32
def o_85 : C := (.seq (.reg false [⟨some 4,.mv (.d (.str ⟨#[]⟩)),none,[]⟩]) (.seq (.reg false [om_ 5 0 [],om_ 6 1 [],oo_ 7 (.call 59 [(.t 5),(.t 6)]) [0,1],om_ 4 7 [2,2,0,1,2]]) .ret))
theorem o_86 : fnOf Tryd.prog o_84 = some (o_85, [.t 4], 8, false) := by kernel_rfl

abbrev o_87 : FuncId := 33
def o_88 : C := (.seq (.reg false [⟨some 4,.mv (.d (.str ⟨#[]⟩)),none,[]⟩]) (.seq (.seq (.reg false [om_ 11 1 []]) (.block 0 (.seq (.reg false [oo_ 13 (.bin .eql (.t 11) (.d (.int .i64 0))) [],om_ 12 13 [0]]) (.cond (.t 12) (.seq (.reg
 false [⟨some 4,.mv (.d (.str ⟨#[]⟩)),none,[]⟩]) .ret) (.seq (.reg false [oo_ 15 (.bin .eql (.t 11) (.d (.int .i64 1))) [],om_ 14 15 [0]]) (.cond (.t 14) (.seq (.reg false [om_ 16 0 [],om_ 4 16 [0,0]]) .ret) .skip))))))
 (.seq (.seq (.reg false [om_ 17 1 [],oo_ 18 (.bin .lss (.t 17) (.d (.int .i64 0))) [0]]) (.cond (.t 18) (.reg false [⟨some 19,.ifc 9 (.d (.str
 ⟨#[115,116,114,105,110,103,115,58,32,110,101,103,97,116,105,118,101,32,82,101,112,101,97,116,32,99,111,117,110,116]⟩)),none,[]⟩,on_ (.bad) [0]]) .skip)) (.seq (.reg false [om_ 21 0 [],oo_ 22 (.lens (.t 21)) [0],oo_ 23
 (.conv .u64 (.t 22)) [1],om_ 24 1 [],oo_ 25 (.conv .u64 (.t 24)) [3],oo_ 26 (.call 60 [(.t 23),(.t 25)]) [2,4],om_ 20 26 [5],oo_ 27 (.ext (.t 20) 0) [6],oo_ 28 (.ext (.t 20) 1) [6],om_ 5 27 [7,5,0,1,2,3,4,5,6,7],om_ 6
 28 [8,9,0,1,2,3,4,5,6,7,8,9]]) (.seq (.seq (.reg false [om_ 29 5 [],oo_ 30 (.bin .gtr (.t 29) (.d (.int .u64 0))) [0],om_ 31 30 [1],og_ 32 (.mv (.t 6)) 31 false [2],og_ 33 (.bin .gtr (.t 32) (.d (.int .u64
 9223372036854775807))) 31 false [3,2],oo_ 34 (.pick (.t 31) (.d (.bool true)) (.t 33)) [2,4]]) (.cond (.t 34) (.reg false [⟨some 35,.ifc 9 (.d (.str
 ⟨#[115,116,114,105,110,103,115,58,32,82,101,112,101,97,116,32,111,117,116,112,117,116,32,108,101,110,103,116,104,32,111,118,101,114,102,108,111,119]⟩)),none,[]⟩,on_ (.bad) [0]]) .skip)) (.seq (.reg false [om_ 36 6
 [],oo_ 37 (.conv .i64 (.t 36)) [0],om_ 7 37 [1,0,1]]) (.seq (.seq (.reg false [om_ 38 0 [],oo_ 39 (.lens (.t 38)) [0],oo_ 40 (.bin .eql (.t 39) (.d (.int .i64 0))) [1]]) (.cond (.t 40) (.seq (.reg false [⟨some 4,.mv (.d
 (.str ⟨#[]⟩)),none,[]⟩]) .ret) .skip)) (.seq (.seq (.reg false [om_ 41 0 [],oo_ 42 (.gstr (.t 41) (.d (.int .i64 0))) [0]]) (.block 1 (.seq (.seq (.reg false [oo_ 44 (.bin .eql (.t 42) (.d (.int .u8 32))) [],om_ 43 44
 [0]]) (.cond (.t 43) .skip (.seq (.reg false [oo_ 45 (.bin .eql (.t 42) (.d (.int .u8 45))) [],om_ 43 45 [0]]) (.cond (.t 43) .skip (.seq (.reg false [oo_ 46 (.bin .eql (.t 42) (.d (.int .u8 48))) [],om_ 43 46 [0]])
 (.cond (.t 43) .skip (.seq (.reg false [oo_ 47 (.bin .eql (.t 42) (.d (.int .u8 61))) [],om_ 43 47 [0]]) (.cond (.t 43) .skip (.reg false [oo_ 48 (.bin .eql (.t 42) (.d (.int .u8 9))) [],om_ 43 48 [0]]))))))))) (.cond
 (.t 43) (.block 2 (.seq (.reg false [om_ 50 7 [],oo_ 51 (.bin .leq (.t 50) (.d (.int .i64 128))) [0],om_ 52 51 [1],og_ 53 (.mv (.t 0)) 52 true [2],⟨some 54,.call 61 [(.d (.str
 ⟨#[32,32,32,32,32,32,32,32,32,32,32,32,32,32,32,32,32,32,32,32,32,32,32,32,32,32,32,32,32,32,32,32,32,32,32,32,32,32,32,32,32,32,32,32,32,32,32,32,32,32,32,32,32,32,32,32,32,32,32,32,32,32,32,32,32,32,32,32,32,32,32,32,32,32,32,32,32,32,32,32,32,32,32,32,32,32,32,32,32,32,32,32,32,32,32,32,32,32,32,32,32,32,32,32,32,32,32,32,32,32,32,32,32,32,32,32,32,32,32,32,32,32,32,32,32,32,32,32]⟩)),(.t 53)],some (52,true),[3,2,2]⟩,oo_ 55 (.pick (.t 52) (.t 54) (.d (.bool false))) [2,4],om_ 49 55 [5,4]]) (.cond (.t 49) (.seq (.reg false [om_ 56 7 [],⟨some 57,.sstr (.d (.str ⟨#[32,32,32,32,32,32,32,32,32,32,32,32,32,32,32,32,32,32,32,32,32,32,32,32,32,32,32,32,32,32,32,32,32,32,32,32,32,32,32,32,32,32,32,32,32,32,32,32,32,32,32,32,32,32,32,32,32,32,32,32,32,32,32,32,32,32,32,32,32,32,32,32,32,32,32,32,32,32,32,32,32,32,32,32,32,32,32,32,32,32,32,32,32,32,32,32,32,32,32,32,32,32,32,32,32,32,32,32,32,32,32,32,32,32,32,32,32,32,32,32,32,32,32,32,32,32,32,32]⟩)) none (some (.t 56)),none,[0]⟩,om_ 4 57 [1,0,1]]) .ret) (.seq (.reg false [om_ 59 7 [],oo_ 60 (.bin .leq (.t 59) (.d (.int .i64 128))) [0],om_ 61 60 [1],og_ 62 (.mv (.t 0)) 61 true [2],⟨some 63,.call 61 [(.d (.str ⟨#[45,45,45,45,45,45,45,45,45,45,45,45,45,45,45,45,45,45,45,45,45,45,45,45,45,45,45,45,45,45,45,45,45,45,45,45,45,45,45,45,45,45,45,45,45,45,45,45,45,45,45,45,45,45,45,45,45,45,45,45,45,45,45,45,45,45,45,45,45,45,45,45,45,45,45,45,45,45,45,45,45,45,45,45,45,45,45,45,45,45,45,45,45,45,45,45,45,45,45,45,45,45,45,45,45,45,45,45,45,45,45,45,45,45,45,45,45,45,45,45,45,45,45,45,45,45,45,45]⟩)),(.t 62)],some (61,true),[3,2,2]⟩,oo_ 64 (.pick (.t 61) (.t 63) (.d (.bool false))) [2,4],om_ 58 64 [5,4]]) (.cond (.t 58) (.seq (.reg false [om_ 65 7 [],⟨some 66,.sstr (.d (.str ⟨#[45,45,45,45,45,45,45,45,45,45,45,45,45,45,45,45,45,45,45,45,45,45,45,45,45,45,45,45,45,45,45,45,45,45,45,45,45,45,45,45,45,45,45,45,45,45,45,45,45,45,45,45,45,45,45,45,45,45,45,45,45,45,45,45,45,45,45,45,45,45,45,45,45,45,45,45,45,45,45,45,45,45,45,45,45,45,45,45,45,45,45,45,45,45,45,45,45,45,45,45,45,45,45,45,45,45,45,45,45,45,45,45,45,45,45,45,45,45,45,45,45,45,45,45,45,45,45,45]⟩)) none (some (.t 65)),none,[0]⟩,om_ 4 66 [1,0,1]]) .ret) (.seq (.reg false [om_ 68 7 [],oo_ 69 (.bin .leq (.t 68) (.d (.int .i64 64))) [0],om_ 70 69 [1],og_ 71 (.mv (.t 0)) 70 true [2],⟨some 72,.call 61 [(.d (.str ⟨#[48,48,48,48,48,48,48,48,48,48,48,48,48,48,48,48,48,48,48,48,48,48,48,48,48,48,48,48,48,48,48,48,48,48,48,48,48,48,48,48,48,48,48,48,48,48,48,48,48,48,48,48,48,48,48,48,48,48,48,48,48,48,48,48]⟩)),(.t 71)],some (70,true),[3,2,2]⟩,oo_ 73 (.pick (.t 70) (.t 72) (.d (.bool false))) [2,4],om_ 67 73 [5,4]]) (.cond (.t 67) (.seq (.reg false [om_ 74 7 [],⟨some 75,.sstr (.d (.str ⟨#[48,48,48,48,48,48,48,48,48,48,48,48,48,48,48,48,48,48,48,48,48,48,48,48,48,48,48,48,48,48,48,48,48,48,48,48,48,48,48,48,48,48,48,48,48,48,48,48,48,48,48,48,48,48,48,48,48,48,48,48,48,48,48,48]⟩)) none (some (.t 74)),none,[0]⟩,om_ 4 75 [1,0,1]]) .ret) (.seq (.reg false [om_ 77 7 [],oo_ 78 (.bin .leq (.t 77) (.d (.int .i64 128))) [0],om_ 79 78 [1],og_ 80 (.mv (.t 0)) 79 true [2],⟨some 81,.call 61 [(.d (.str ⟨#[61,61,61,61,61,61,61,61,61,61,61,61,61,61,61,61,61,61,61,61,61,61,61,61,61,61,61,61,61,61,61,61,61,61,61,61,61,61,61,61,61,61,61,61,61,61,61,61,61,61,61,61,61,61,61,61,61,61,61,61,61,61,61,61,61,61,61,61,61,61,61,61,61,61,61,61,61,61,61,61,61,61,61,61,61,61,61,61,61,61,61,61,61,61,61,61,61,61,61,61,61,61,61,61,61,61,61,61,61,61,61,61,61,61,61,61,61,61,61,61,61,61,61,61,61,61,61,61]⟩)),(.t 80)],some (79,true),[3,2,2]⟩,oo_ 82 (.pick (.t 79) (.t 81) (.d (.bool false))) [2,4],om_ 76 82 [5,4]]) (.cond (.t 76) (.seq (.reg false [om_ 83 7 [],⟨some 84,.sstr (.d (.str ⟨#[61,61,61,61,61,61,61,61,61,61,61,61,61,61,61,61,61,61,61,61,61,61,61,61,61,61,61,61,61,61,61,61,61,61,61,61,61,61,61,61,61,61,61,61,61,61,61,61,61,61,61,61,61,61,61,61,61,61,61,61,61,61,61,61,61,61,61,61,61,61,61,61,61,61,61,61,61,61,61,61,61,61,61,61,61,61,61,61,61,61,61,61,61,61,61,61,61,61,61,61,61,61,61,61,61,61,61,61,61,61,61,61,61,61,61,61,61,61,61,61,61,61,61,61,61,61,61,61]⟩)) none (some (.t 83)),none,[0]⟩,om_ 4 84 [1,0,1]]) .ret) (.seq (.reg false [om_ 86 7 [],oo_ 87 (.bin .leq (.t 86) (.d (.int .i64 64))) [0],om_ 88 87 [1],og_ 89 (.mv (.t 0)) 88 true [2],⟨some 90,.call 61 [(.d (.str ⟨#[9,9,9,9,9,9,9,9,9,9,9,9,9,9,9,9,9,9,9,9,9,9,9,9,9,9,9,9,9,9,9,9,9,9,9,9,9,9,9,9,9,9,9,9,9,9,9,9,9,9,9,9,9,9,9,9,9,9,9,9,9,9,9,9]⟩)),(.t 89)],some (88,true),[3,2,2]⟩,oo_ 91 (.pick (.t 88) (.t 90) (.d (.bool false))) [2,4],om_ 85 91 [5,4]]) (.cond (.t 85) (.seq (.reg false [om_ 92 7 [],⟨some 93,.sstr (.d (.str ⟨#[9,9,9,9,9,9,9,9,9,9,9,9,9,9,9,9,9,9,9,9,9,9,9,9,9,9,9,9,9,9,9,9,9,9,9,9,9,9,9,9,9,9,9,9,9,9,9,9,9,9,9,9,9,9,9,9,9,9,9,9,9,9,9,9]⟩)) none (some (.t 92)),none,[0]⟩,om_ 4 93 [1,0,1]]) .ret) .skip))))))))))) .skip)))) (.seq (.reg false [om_ 94 7 [],om_ 8 94 [0,0]]) (.seq (.seq (.reg false [om_ 95 7 [],oo_ 96 (.bin .gtr (.t 95) (.d (.int .i64 8192))) [0]]) (.cond (.t 96) (.seq (.reg false [om_ 97 0 [],oo_ 98 (.lens (.t 97)) [0],oo_ 99 (.bin .quo (.d (.int .i64 8192)) (.t 98)) [1],om_ 100 0 [],oo_ 101 (.lens (.t 100)) [3],oo_ 102 (.bin .mul (.t 99) (.t 101)) [2,4],om_ 8 102 [5,0,1,2,3,4,5]]) (.seq (.reg false [om_ 103 8 [],oo_ 104 (.bin .eql (.t 103) (.d (.int .i64 0))) [0]]) (.cond (.t 104) (.reg false [om_ 105 0 [],oo_ 106 (.lens (.t 105)) [0],om_ 8 106 [1,0,1]]) .skip))) .skip)) (.seq (.reg false [oo_ 9 (.new 95 [.nilp,.nilsl]) []]) (.seq (.reg false [om_ 107 7 [],oo_ 108 (.call 62 [(.t 9),(.t 107)]) [0]]) (.seq (.reg false [om_ 109 0 [],oo_ 110 (.call 63 [(.t 9),(.t 109)]) [0]]) (.seq (.block 3 (.loop (.seq (.seq (.reg false [oo_ 111 (.call 64 [(.t 9)]) [],om_ 112 7 [],oo_ 113 (.bin .lss (.t 111) (.t 112)) [0,1]]) (.cond (.t 113) .skip (.exit 3))) (.block 4 (.seq (.reg false [om_ 114 7 [],oo_ 115 (.call 64 [(.t 9)]) [],oo_ 116 (.bin .sub (.t 114) (.t 115)) [0,1],oo_ 117 (.call 64 [(.t 9)]) [1],om_ 118 8 [],oo_ 119 (.mm false [(.t 116),(.t 117),(.t 118)]) [2,3,4],om_ 10 119 [5,3,0,1,2,3,4,5]]) (.reg false [oo_ 120 (.call 65 [(.t 9)]) [],om_ 121 10 [],oo_ 122 (.sstr (.t 120) none (some (.t 121))) [0,1],oo_ 123 (.call 63 [(.t 9),(.t 122)]) [2,0]])))))) (.seq (.reg false [oo_ 124 (.call 65 [(.t 9)]) [],om_ 4 124 [0,0,0]]) .ret)))))))))))))))
theorem o_89 : fnOf Tryd.prog o_87 = some (o_88, [.t 4], 125, false) := by kernel_rfl

abbrev o_8a : FuncId := 34
def o_8b : C := (.seq (.reg false [oo_ 2 (.mv (.d .nilsl)) []]) (.seq (.seq (.reg false [om_ 3 0 [],oo_ 4 (.snl false (.t 3)) [0]]) (.cond (.t 4) (.seq (.reg false [oo_ 2 (.mv (.d .nilsl)) []]) .ret) .skip)) (.seq (.reg false [oo_ 5
 (.bsl0) [],om_ 6 0 [],oo_ 7 (.app 34 1 8 (.t 5) (.t 6)) [0,1],om_ 2 7 [2,2,0,1,2]]) .ret)))
theorem o_8c : fnOf Tryd.prog o_8a = some (o_8b, [.t 2], 8, false) := by kernel_rfl

abbrev o_8d : FuncId := 35
def o_8e : C := (.seq (.reg false [oo_ 4 (.mv (.d .nilsl)) []]) (.seq (.reg false [om_ 8 0 [],oo_ 9 (.len (.t 8)) [0],oo_ 10 (.bin .add (.t 9) (.d (.int .i64 1))) [1],oo_ 11 (.mksl 34 1 8 [(.int .u64 0)] (.t 10) (.t 10)) [2,2],om_ 5 11
 [3,0,1,2,3]]) (.seq (.seq (.reg false [om_ 12 0 [],oo_ 13 (.len (.t 12)) [0],oo_ 14 (.mv (.d (.int .i64 0))) []]) (.block 0 (.loop (.seq (.reg false [oo_ 15 (.bin .lss (.t 14) (.t 13)) []]) (.seq (.cond (.t 15) .skip
 (.exit 0)) (.seq (.block 1 (.seq (.reg false [om_ 16 14 [],oo_ 17 (.ix 1 (.t 12) (.t 14)) [],oo_ 18 (.load false 1 (.t 17)) [1],om_ 6 16 [0,0,1,2],om_ 7 18 [2,3,0,1,2,3]]) (.seq (.reg true [om_ 19 5 [],om_ 20 6 [],oo_
 21 (.ix 1 (.t 19) (.t 20)) [0,1],oo_ 22 (.load false 1 (.t 21)) [2],om_ 23 7 [],om_ 24 1 [],oo_ 25 (.bin .shl (.t 23) (.t 24)) [4,5],oo_ 26 (.bin .or (.t 22) (.t 25)) [3,6],oo_ 27 (.ix 1 (.t 19) (.t 20))
 [0,1,0,1,2,3,4,5,6,7],on_ (.store 1 (.t 27) (.t 26)) [8,7,0,1,2,3,4,5,6,7]]) (.reg false [om_ 28 5 [],om_ 29 6 [],oo_ 30 (.bin .add (.t 29) (.d (.int .i64 1))) [1],om_ 31 7 [],om_ 32 1 [],oo_ 33 (.bin .sub (.d (.int
 .i64 64)) (.t 32)) [4],oo_ 34 (.bin .shr (.t 31) (.t 33)) [3,5],oo_ 35 (.ix 1 (.t 28) (.t 30)) [0,2,0,1,2,3,4,5,6],on_ (.store 1 (.t 35) (.t 34)) [7,6,0,1,2,3,4,5,6]])))) (.reg false [oo_ 36 (.bin .add (.t 14) (.d (.int
 .i64 1))) [],om_ 14 36 [0]]))))))) (.seq (.reg false [om_ 37 5 [],om_ 4 37 [0,0]]) .ret))))
theorem o_8f : fnOf Tryd.prog o_8d = some (o_8e, [.t 4], 38, false) := by kernel_rfl

abbrev o_8g : FuncId := 37
def o_8h : C := (.seq (.reg false [oo_ 4 (.mv (.d (.int .i64 0))) []]) (.seq (.seq (.reg false [om_ 7 0 [],oo_ 8 (.call 17 [(.t 7)]) [0],oo_ 9 (.un .not (.t 8)) [1]]) (.cond (.t 9) (.seq (.reg false [oo_ 4 (.mv (.d (.int .i64 10)))
 []]) .ret) .skip)) (.seq (.seq (.reg false [om_ 10 1 [],oo_ 11 (.len (.t 10)) [0],oo_ 12 (.mv (.d (.int .i64 0))) []]) (.block 0 (.loop (.seq (.reg false [oo_ 13 (.bin .lss (.t 12) (.t 11)) []]) (.seq (.cond (.t 13)
 .skip (.exit 0)) (.seq (.block 1 (.seq (.reg false [oo_ 14 (.ix 1 (.t 10) (.t 12)) [],oo_ 15 (.load false 1 (.t 14)) [0],om_ 6 15 [1,0,1]]) (.seq (.reg false [om_ 16 6 [],oo_ 17 (.bin .lss (.t 16) (.d (.int .i64 0)))
 [0],om_ 18 17 [1],og_ 19 (.mv (.t 6)) 18 false [2],og_ 20 (.bin .gtr (.t 19) (.d (.int .i64 1023))) 18 false [3,2],oo_ 21 (.pick (.t 18) (.d (.bool true)) (.t 20)) [2,4]]) (.cond (.t 21) (.seq (.reg false [oo_ 4 (.mv
 (.d (.int .i64 2))) []]) .ret) .skip)))) (.reg false [oo_ 22 (.bin .add (.t 12) (.d (.int .i64 1))) [],om_ 12 22 [0]]))))))) (.seq (.reg false [oo_ 4 (.mv (.d (.int .i64 0))) []]) .ret))))
theorem o_8i : fnOf Tryd.prog o_8g = some (o_8h, [.t 4], 23, false) := by kernel_rfl

abbrev o_8j : FuncId := 38
def o_8k : C := (.seq (.reg false [oo_ 4 (.mv (.d (.int .i64 0))) [],oo_ 5 (.mv (.d (.int .i64 0))) [0]]) (.seq (.reg true [om_ 6 1 [],om_ 7 0 [],oo_ 8 (.bin .shr (.t 6) (.t 7)) [0,1],om_ 9 1 [],om_ 10 0 [],oo_ 11 (.bin .shl (.d (.int
 .i64 1)) (.t 10)) [4],oo_ 12 (.bin .sub (.t 11) (.d (.int .i64 1))) [5],oo_ 13 (.bin .and (.t 9) (.t 12)) [3,6],om_ 4 8 [2,0,1,2],om_ 5 13 [7,8,0,1,2,3,4,5,6,7,8]]) .ret))
theorem o_8l : fnOf Tryd.prog o_8j = some (o_8k, [.t 4, .t 5], 14, false) := by kernel_rfl

abbrev o_8m : FuncId := 39
def o_8n : C := (.seq (.reg false [oo_ 2 (.box 25 (.t 0)) [],oo_ 3 (.box 25 (.t 1)) [],oo_ 4 (.new 25 [.nilsl]) [],oo_ 5 (.mv (.d (.int .i64 0))) []]) (.seq (.seq (.reg false [oo_ 11 (.load true 1 (.t 2)) [],oo_ 12 (.load true 1 (.t
 3)) [],oo_ 13 (.call 8 [(.t 11),(.t 12)]) [0,1],oo_ 14 (.bin .lss (.t 13) (.d (.int .i64 0))) [2]]) (.cond (.t 14) (.seq (.reg false [oo_ 15 (.build [.nilsl] []) [],on_ (.store 1 (.t 4) (.t 15)) [0,0],oo_ 5 (.mv (.d
 (.int .i64 2))) [1,0,1]]) .ret) .skip)) (.seq (.reg false [oo_ 16 (.fa 0 (.t 2)) [],oo_ 17 (.load false 1 (.t 16)) [0],oo_ 18 (.len (.t 17)) [1],oo_ 19 (.mksl 34 1 8 [(.int .u64 0)] (.t 18) (.t 18)) [2,2],om_ 6 19
 [3,0,1,2,3]]) (.seq (.reg false [oo_ 7 (.mv (.d (.int .u64 0))) []]) (.seq (.seq (.reg false [oo_ 20 (.fa 0 (.t 2)) [],oo_ 21 (.load false 1 (.t 20)) [0],oo_ 22 (.len (.t 21)) [1],oo_ 23 (.mv (.d (.int .i64 0))) []])
 (.block 0 (.loop (.seq (.reg false [oo_ 24 (.bin .lss (.t 23) (.t 22)) []]) (.seq (.cond (.t 24) .skip (.exit 0)) (.seq (.block 1 (.seq (.reg false [om_ 25 23 [],oo_ 26 (.ix 1 (.t 21) (.t 23)) [],oo_ 27 (.load false 1
 (.t 26)) [1],om_ 8 25 [0,0,1,2],om_ 9 27 [2,3,0,1,2,3]]) (.seq (.reg false [oo_ 10 (.mv (.d (.int .u64 0))) []]) (.seq (.seq (.reg false [om_ 28 8 [],oo_ 29 (.fa 0 (.t 3)) [],oo_ 30 (.load false 1 (.t 29)) [1],oo_ 31
 (.len (.t 30)) [2],oo_ 32 (.bin .lss (.t 28) (.t 31)) [0,3]]) (.cond (.t 32) (.reg false [oo_ 33 (.fa 0 (.t 3)) [],oo_ 34 (.load false 1 (.t 33)) [0],om_ 35 8 [],oo_ 36 (.ix 1 (.t 34) (.t 35)) [1,2],oo_ 37 (.load false
 1 (.t 36)) [3],om_ 10 37 [4,0,1,2,3,4]]) .skip)) (.reg false [om_ 39 6 [],om_ 40 8 [],om_ 41 9 [],om_ 42 10 [],om_ 43 7 [],oo_ 44 (.call 66 [(.t 41),(.t 42),(.t 43)]) [2,3,4],om_ 38 44 [5],oo_ 45 (.ext (.t 38) 0)
 [6],oo_ 46 (.ext (.t 38) 1) [6],oo_ 47 (.ix 1 (.t 39) (.t 40)) [0,1,0,1,2,3,4,5,6,7],on_ (.store 1 (.t 47) (.t 45)) [9,7,5,0,1,2,3,4,5,6,7],om_ 7 46 [8,10,0,1,2,3,4,5,6,7,8,9,10]]))))) (.reg false [oo_ 48 (.bin .add (.t
 23) (.d (.int .i64 1))) [],om_ 23 48 [0]]))))))) (.seq (.reg false [om_ 49 6 [],oo_ 50 (.call 31 [(.t 49)]) [0],on_ (.store 1 (.t 4) (.t 50)) [1,1,0,1],oo_ 5 (.mv (.d (.int .i64 0))) [2,0,1,2]]) .ret))))))
theorem o_8o : fnOf Tryd.prog o_8m = some (o_8n, [.cell 4 true 1, .t 5], 51, false) := by kernel_rfl

abbrev o_8p : FuncId := 40
def o_8q : C := (.seq (.reg false [oo_ 1 (.box 42 (.t 0)) [],oo_ 2 (.mv (.d (.bool false))) []]) (.seq (.reg false [oo_ 3 (.fa 2 (.t 1)) [],oo_ 4 (.load true 1 (.t 3)) [0],oo_ 5 (.call 19 [(.t 4)]) [1],om_ 2 5 [2,2,0,1,2]]) .ret))
theorem o_8r : fnOf Tryd.prog o_8p = some (o_8q, [.t 2], 6, false) := by kernel_rfl

abbrev o_8s : FuncId := 41
def o_8t : C := (.seq (.reg false [oo_ 1 (.box 40 (.t 0)) [],⟨some 2,.mv (.d (.str ⟨#[]⟩)),none,[]⟩]) (.seq (.seq (.reg false [oo_ 3 (.fa 1 (.t 1)) [],oo_ 4 (.load false 1 (.t 3)) [0]]) (.cond (.t 4) (.seq (.reg false [oo_ 5 (.fa 0 (.t
 1)) [],oo_ 6 (.load true 1 (.t 5)) [0],oo_ 7 (.call 9 [(.t 6)]) [1],⟨some 8,.bin .add (.d (.str ⟨#[45]⟩)) (.t 7),none,[2]⟩,om_ 2 8 [3,2,0,1,2,3]]) .ret) .skip)) (.seq (.reg false [oo_ 9 (.fa 0 (.t 1)) [],oo_ 10 (.load
 true 1 (.t 9)) [0],oo_ 11 (.call 9 [(.t 10)]) [1],om_ 2 11 [2,2,0,1,2]]) .ret)))
theorem o_8u : fnOf Tryd.prog o_8s = some (o_8t, [.t 2], 12, false) := by kernel_rfl

abbrev o_8v : FuncId := 42
def o_8w : C := (.seq (.reg false [oo_ 1 (.box 42 (.t 0)) [],oo_ 2 (.new 25 [.nilsl]) []]) (.seq (.reg true [oo_ 3 (.fa 2 (.t 1)) [],oo_ 4 (.load true 1 (.t 3)) [0],oo_ 5 (.bsl 34 1 1 [(.int .u64 0)] [(0,1,(.d (.int .u64 1)))]) [],oo_
 6 (.call 10 [(.t 5)]) [2],oo_ 7 (.call 12 [(.t 4),(.t 6)]) [1,3,3],on_ (.store 1 (.t 2) (.t 7)) [4,4,0,1,2,3,4]]) .ret))
theorem o_8x : fnOf Tryd.prog o_8v = some (o_8w, [.cell 2 true 1], 8, false) := by kernel_rfl

abbrev o_8y : FuncId := 43
def o_8z : C := (.seq (.reg false [oo_ 2 (.box 40 (.t 0)) [],oo_ 3 (.box 25 (.t 1)) [],oo_ 4 (.new 42 [.nilsl,(.bool false),.nilsl]) []]) (.seq (.reg true [oo_ 14 (.load true 2 (.t 2)) [],oo_ 15 (.call 68 [(.t 14)]) [0],oo_ 16 (.load
 true 1 (.t 3)) [],oo_ 17 (.call 67 [(.t 15),(.t 16)]) [1,2,1],oo_ 5 (.new 25 [.nilsl]) [],on_ (.store 1 (.t 5) (.t 17)) [4,3,3,0,1,2,3,4]]) (.seq (.reg true [oo_ 19 (.load true 2 (.t 2)) [],oo_ 20 (.call 68 [(.t 19)])
 [0],oo_ 21 (.load true 1 (.t 5)) [],oo_ 22 (.call 69 [(.t 20),(.t 21)]) [1,2,1],om_ 18 22 [3],oo_ 23 (.ext (.t 18) 0) [4],oo_ 24 (.ext (.t 18) 1) [4],oo_ 25 (.ext (.t 18) 2) [4],oo_ 6 (.new 25 [.nilsl]) [],oo_ 7 (.new
 25 [.nilsl]) [],on_ (.store 1 (.t 6) (.t 23)) [8,5,3,0,1,2,3,4,5,8,9],on_ (.store 1 (.t 7) (.t 24)) [9,6,10,0,1,2,3,4,5,6,8,9,10],om_ 8 25 [7,11,0,1,2,3,4,5,6,7,8,9,10,11]]) (.seq (.reg false [oo_ 27 (.load true 1 (.t
 3)) [],oo_ 28 (.load true 1 (.t 5)) [],oo_ 29 (.call 69 [(.t 27),(.t 28)]) [0,1],om_ 26 29 [2],oo_ 30 (.ext (.t 26) 0) [3],oo_ 31 (.ext (.t 26) 1) [3],oo_ 32 (.ext (.t 26) 2) [3],oo_ 9 (.new 25 [.nilsl]) [],oo_ 10 (.new
 25 [.nilsl]) [],on_ (.store 1 (.t 9) (.t 30)) [7,4,2,0,1,2,3,4,7,8],on_ (.store 1 (.t 10) (.t 31)) [8,5,9,0,1,2,3,4,5,7,8,9],om_ 11 32 [6,10,0,1,2,3,4,5,6,7,8,9,10]]) (.seq (.reg true [oo_ 34 (.load true 1 (.t 9))
 [],oo_ 35 (.bsl 34 1 1 [(.int .u64 0)] [(0,1,(.d (.int .u64 1)))]) [],oo_ 36 (.call 10 [(.t 35)]) [1],oo_ 37 (.call 39 [(.t 34),(.t 36)]) [0,2,2],om_ 33 37 [3],oo_ 38 (.ext (.t 33) 0) [4],oo_ 39 (.ext (.t 33) 1) [4],oo_
 12 (.new 25 [.nilsl]) [],on_ (.store 1 (.t 12) (.t 38)) [7,5,3,0,1,2,3,4,5,7],om_ 13 39 [6,8,0,1,2,3,4,5,6,7,8]]) (.seq (.reg true [oo_ 40 (.load true 2 (.t 2)) [],oo_ 41 (.call 71 [(.t 40)]) [0],oo_ 42 (.load true 1
 (.t 6)) [],oo_ 43 (.call 70 [(.t 41),(.t 42)]) [1,2,1],oo_ 44 (.load true 1 (.t 12)) [],oo_ 45 (.build [.nilsl,(.bool false),.nilsl] [(0,2,(.t 43)),(2,1,(.t 44))]) [3,4],on_ (.store 3 (.t 4) (.t 45)) [5,3,0,1,2,3,4,5]])
 .ret))))))
theorem o_90 : fnOf Tryd.prog o_8y = some (o_8z, [.cell 4 true 3], 46, false) := by kernel_rfl

abbrev o_91 : FuncId := 44
def o_92 : C := (.seq (.reg false [oo_ 2 (.new 40 [.nilsl,(.bool false)]) []]) (.seq (.seq (.reg false [om_ 3 0 [],oo_ 4 (.bin .lss (.t 3) (.d (.int .i64 0))) [0]]) (.cond (.t 4) (.seq (.reg false [om_ 5 0 [],oo_ 6 (.conv .u64 (.t 5))
 [0],oo_ 7 (.un .neg (.t 6)) [1],oo_ 8 (.bsl 34 1 1 [(.int .u64 0)] [(0,1,(.t 7))]) [2],oo_ 9 (.call 10 [(.t 8)]) [3],oo_ 10 (.call 70 [(.d (.bool true)),(.t 9)]) [4,4],on_ (.store 2 (.t 2) (.t 10)) [5,5,0,1,2,3,4,5]])
 .ret) .skip)) (.seq (.reg false [om_ 11 0 [],oo_ 12 (.conv .u64 (.t 11)) [0],oo_ 13 (.bsl 34 1 1 [(.int .u64 0)] [(0,1,(.t 12))]) [1],oo_ 14 (.call 10 [(.t 13)]) [2],oo_ 15 (.call 70 [(.d (.bool false)),(.t 14)])
 [3,3],on_ (.store 2 (.t 2) (.t 15)) [4,4,0,1,2,3,4]]) .ret)))
theorem o_93 : fnOf Tryd.prog o_91 = some (o_92, [.cell 2 true 2], 16, false) := by kernel_rfl

abbrev o_94 : FuncId := 45
def o_95 : C := (.seq (.reg false [oo_ 2 (.mv (.d (.int .i64 0))) []]) (.seq (.reg false [oo_ 3 (.mv (.d (.int .i64 1))) []]) (.seq (.seq (.reg false [oo_ 4 (.mv (.d (.int .i64 0))) []]) (.block 0 (.loop (.seq (.seq (.reg false [om_ 5
 4 [],om_ 6 0 [],oo_ 7 (.bin .lss (.t 5) (.t 6)) [0,1]]) (.cond (.t 7) .skip (.exit 0))) (.seq (.block 1 (.reg false [om_ 10 3 [],oo_ 11 (.bin .mul (.d (.int .i64 2)) (.t 10)) [0],om_ 3 11 [1,0,1]])) (.reg false [om_ 8 4
 [],oo_ 9 (.bin .add (.t 8) (.d (.int .i64 1))) [0],om_ 4 9 [1,0,1]])))))) (.seq (.reg false [om_ 12 3 [],om_ 2 12 [0,0]]) .ret))))
theorem o_96 : fnOf Tryd.prog o_94 = some (o_95, [.t 2], 13, false) := by kernel_rfl

abbrev o_97 : FuncId := 46
def o_98 : C := (.seq (.reg false [oo_ 2 (.box 40 (.t 0)) [],oo_ 3 (.box 40 (.t 1)) [],oo_ 4 (.mv (.d (.int .i64 0))) []]) (.seq (.block 0 (.seq (.reg false [oo_ 6 (.fa 1 (.t 2)) [],oo_ 7 (.load false 1 (.t 6)) [0],om_ 8 7 [1],og_ 9
 (.fa 1 (.t 3)) 8 true [2],og_ 10 (.load false 1 (.t 9)) 8 true [3,2],oo_ 11 (.pick (.t 8) (.t 10) (.d (.bool false))) [2,4],om_ 5 11 [5,2]]) (.cond (.t 5) (.seq (.reg false [oo_ 12 (.fa 0 (.t 3)) [],oo_ 13 (.load true 1
 (.t 12)) [0],oo_ 14 (.fa 0 (.t 2)) [],oo_ 15 (.load true 1 (.t 14)) [2],oo_ 16 (.call 8 [(.t 13),(.t 15)]) [1,3],om_ 4 16 [4,4,0,1,2,3,4]]) .ret) (.seq (.reg false [oo_ 18 (.fa 1 (.t 2)) [],oo_ 19 (.load false 1 (.t
 18)) [0],om_ 17 19 [1]]) (.cond (.t 17) (.seq (.reg false [oo_ 4 (.mv (.d (.int .i64 (-1)))) []]) .ret) (.seq (.reg false [oo_ 21 (.fa 1 (.t 3)) [],oo_ 22 (.load false 1 (.t 21)) [0],om_ 20 22 [1]]) (.cond (.t 20) (.seq
 (.reg false [oo_ 4 (.mv (.d (.int .i64 1))) []]) .ret) .skip))))))) (.seq (.reg false [oo_ 23 (.fa 0 (.t 2)) [],oo_ 24 (.load true 1 (.t 23)) [0],oo_ 25 (.fa 0 (.t 3)) [],oo_ 26 (.load true 1 (.t 25)) [2],oo_ 27 (.call
 8 [(.t 24),(.t 26)]) [1,3],om_ 4 27 [4,4,0,1,2,3,4]]) .ret)))
theorem o_99 : fnOf Tryd.prog o_97 = some (o_98, [.t 4], 28, false) := by kernel_rfl

abbrev o_9a : FuncId := 47
def o_9b : C := (.seq (.reg false [oo_ 2 (.box 40 (.t 0)) [],oo_ 3 (.box 40 (.t 1)) [],oo_ 4 (.new 40 [.nilsl,(.bool false)]) []]) (.seq (.reg true [oo_ 5 (.fa 1 (.t 2)) [],oo_ 6 (.load false 1 (.t 5)) [0],oo_ 7 (.fa 1 (.t 3)) [],oo_ 8
 (.load false 1 (.t 7)) [2],oo_ 9 (.beq true (.t 6) (.t 8)) [1,3],oo_ 10 (.fa 0 (.t 2)) [],oo_ 11 (.load true 1 (.t 10)) [5],oo_ 12 (.fa 0 (.t 3)) [],oo_ 13 (.load true 1 (.t 12)) [7],oo_ 14 (.call 72 [(.t 11),(.t 13)])
 [6,8],oo_ 15 (.call 70 [(.t 9),(.t 14)]) [4,9,9],on_ (.store 2 (.t 4) (.t 15)) [10,10,0,1,2,3,4,5,6,7,8,9,10]]) .ret))
theorem o_9c : fnOf Tryd.prog o_9a = some (o_9b, [.cell 4 true 2], 16, false) := by kernel_rfl

abbrev o_9d : FuncId := 48
def o_9e : C := (.seq (.reg false [oo_ 1 (.box 42 (.t 0)) [],oo_ 2 (.new 40 [.nilsl,(.bool false)]) []]) (.seq (.reg false [oo_ 3 (.load true 3 (.t 1)) [],oo_ 4 (.call 42 [(.t 3)]) [0],oo_ 5 (.call 70 [(.d (.bool false)),(.t 4)])
 [1,1],on_ (.store 2 (.t 2) (.t 5)) [2,2,0,1,2]]) .ret))
theorem o_9f : fnOf Tryd.prog o_9d = some (o_9e, [.cell 2 true 2], 6, false) := by kernel_rfl

abbrev o_9g : FuncId := 49
def o_9h : C := (.seq (.reg false [⟨some 2,.mv (.d (.str ⟨#[]⟩)),none,[]⟩]) (.seq (.seq (.reg false [om_ 7 0 [],oo_ 8 (.len (.t 7)) [0],oo_ 9 (.bin .eql (.t 8) (.d (.int .i64 0))) [1]]) (.cond (.t 9) (.seq (.reg false [⟨some 2,.mv (.d
 (.str ⟨#[48]⟩)),none,[]⟩]) .ret) .skip)) (.seq (.reg false [⟨some 3,.mv (.d (.str ⟨#[]⟩)),none,[]⟩]) (.seq (.seq (.reg false [oo_ 4 (.mv (.d (.int .i64 0))) []]) (.block 0 (.loop (.seq (.seq (.reg false [om_ 10 4 [],om_
 11 0 [],oo_ 12 (.len (.t 11)) [1],oo_ 13 (.bin .lss (.t 10) (.t 12)) [0,2]]) (.cond (.t 13) .skip (.exit 0))) (.seq (.block 1 (.seq (.reg false [om_ 16 0 [],om_ 17 4 [],oo_ 18 (.ix 1 (.t 16) (.t 17)) [0,1],oo_ 19 (.load
 false 1 (.t 18)) [2],om_ 5 19 [3,0,1,2,3]]) (.seq (.reg false [oo_ 6 (.mv (.d (.int .i64 0))) []]) (.block 2 (.loop (.seq (.seq (.reg false [om_ 20 6 [],oo_ 21 (.bin .lss (.t 20) (.d (.int .i64 4))) [0],om_ 22 21
 [1],og_ 23 (.mv (.t 4)) 22 true [2],og_ 24 (.mv (.t 0)) 22 true [2],og_ 25 (.len (.t 24)) 22 true [4,2],og_ 26 (.bin .sub (.t 25) (.d (.int .i64 1))) 22 true [5,2],og_ 27 (.bin .lss (.t 23) (.t 26)) 22 true [3,6,2],og_
 28 (.mv (.t 27)) 22 true [7,2,2],og_ 29 (.mv (.t 5)) 28 false [8],og_ 30 (.bin .gtr (.t 29) (.d (.int .i64 0))) 28 false [9,8],og_ 31 (.pick (.t 28) (.d (.bool true)) (.t 30)) 22 true [8,10,2],oo_ 32 (.pick (.t 22) (.t
 31) (.d (.bool false))) [2,11]]) (.cond (.t 32) .skip (.exit 2))) (.seq (.block 3 (.seq (.reg false [om_ 35 5 [],oo_ 36 (.bin .rem (.t 35) (.d (.int .i64 10))) [0],oo_ 37 (.bin .add (.d (.int .i64 48)) (.t 36)) [1],oo_
 38 (.conv .u8 (.t 37)) [2],oo_ 39 (.bsl 5 1 1 [(.int .u8 0)] [(0,1,(.t 38))]) [3],oo_ 40 (.bstr (.t 39)) [4],om_ 41 3 [],oo_ 42 (.bin .add (.t 40) (.t 41)) [5,6],om_ 3 42 [7,0,1,2,3,4,5,6,7]]) (.reg false [om_ 43 5
 [],oo_ 44 (.bin .quo (.t 43) (.d (.int .i64 10))) [0],om_ 5 44 [1,0,1]]))) (.reg false [om_ 33 6 [],oo_ 34 (.bin .add (.t 33) (.d (.int .i64 1))) [0],om_ 6 34 [1,0,1]])))))))) (.reg false [om_ 14 4 [],oo_ 15 (.bin .add
 (.t 14) (.d (.int .i64 1))) [0],om_ 4 15 [1,0,1]])))))) (.seq (.reg false [om_ 45 3 [],om_ 2 45 [0,0]]) .ret)))))
theorem o_9i : fnOf Tryd.prog o_9g = some (o_9h, [.t 2], 46, false) := by kernel_rfl

abbrev o_9j : FuncId := 50
def o_9k : C := (.seq (.reg false [oo_ 2 (.mv (.d .nilsl)) []]) (.seq (.reg false [oo_ 3 (.mv (.d .nilsl)) []]) (.seq (.block 0 (.loop (.seq (.seq (.reg false [om_ 4 0 [],oo_ 5 (.bin .gtr (.t 4) (.d (.int .i64 0))) [0]]) (.cond (.t 5)
 .skip (.exit 0))) (.block 1 (.seq (.reg false [om_ 6 3 [],om_ 7 0 [],oo_ 8 (.bin .rem (.t 7) (.d (.int .i64 10000))) [1],oo_ 9 (.bsl 3 1 1 [(.int .i64 0)] [(0,1,(.t 8))]) [2],oo_ 10 (.app 3 1 8 (.t 6) (.t 9)) [0,3],om_
 3 10 [4,4,0,1,2,3,4]]) (.reg false [om_ 11 0 [],oo_ 12 (.bin .quo (.t 11) (.d (.int .i64 10000))) [0],om_ 0 12 [1,0,1]])))))) (.seq (.reg false [om_ 13 3 [],om_ 2 13 [0,0]]) .ret))))
theorem o_9l : fnOf Tryd.prog o_9j = some (o_9k, [.t 2], 14, false) := by kernel_rfl

abbrev o_9m : FuncId := 51
def o_9n : C := (.seq (.reg false [oo_ 4 (.mv (.d .nilsl)) []]) (.seq (.reg false [oo_ 5 (.mv (.d .nilsl)) []]) (.seq (.reg false [oo_ 6 (.mv (.d (.int .i64 0))) []]) (.seq (.seq (.reg false [oo_ 7 (.mv (.d (.int .i64 0))) []]) (.block
 0 (.loop (.seq (.seq (.reg false [om_ 8 7 [],om_ 9 0 [],oo_ 10 (.len (.t 9)) [1],oo_ 11 (.bin .lss (.t 8) (.t 10)) [0,2],om_ 12 11 [3],og_ 13 (.mv (.t 7)) 12 false [4],og_ 14 (.mv (.t 1)) 12 false [4],og_ 15 (.len (.t
 14)) 12 false [6,4],og_ 16 (.bin .lss (.t 13) (.t 15)) 12 false [5,7,4],oo_ 17 (.pick (.t 12) (.d (.bool true)) (.t 16)) [4,8],om_ 18 17 [9,4],og_ 19 (.mv (.t 6)) 18 false [10],og_ 20 (.bin .gtr (.t 19) (.d (.int .i64
 0))) 18 false [11,10],oo_ 21 (.pick (.t 18) (.d (.bool true)) (.t 20)) [10,12]]) (.cond (.t 21) .skip (.exit 0))) (.seq (.block 1 (.seq (.seq (.reg false [om_ 24 7 [],om_ 25 0 [],oo_ 26 (.len (.t 25)) [1],oo_ 27 (.bin
 .lss (.t 24) (.t 26)) [0,2]]) (.cond (.t 27) (.reg false [om_ 28 6 [],om_ 29 0 [],om_ 30 7 [],oo_ 31 (.ix 1 (.t 29) (.t 30)) [1,2],oo_ 32 (.load false 1 (.t 31)) [3],oo_ 33 (.bin .add (.t 28) (.t 32)) [0,4],om_ 6 33
 [5,0,1,2,3,4,5]]) .skip)) (.seq (.seq (.reg false [om_ 34 7 [],om_ 35 1 [],oo_ 36 (.len (.t 35)) [1],oo_ 37 (.bin .lss (.t 34) (.t 36)) [0,2]]) (.cond (.t 37) (.reg false [om_ 38 6 [],om_ 39 1 [],om_ 40 7 [],oo_ 41 (.ix
 1 (.t 39) (.t 40)) [1,2],oo_ 42 (.load false 1 (.t 41)) [3],oo_ 43 (.bin .add (.t 38) (.t 42)) [0,4],om_ 6 43 [5,0,1,2,3,4,5]]) .skip)) (.seq (.reg false [om_ 44 5 [],om_ 45 6 [],oo_ 46 (.bin .rem (.t 45) (.d (.int .i64
 10000))) [1],oo_ 47 (.bsl 3 1 1 [(.int .i64 0)] [(0,1,(.t 46))]) [2],oo_ 48 (.app 3 1 8 (.t 44) (.t 47)) [0,3],om_ 5 48 [4,4,0,1,2,3,4]]) (.reg false [om_ 49 6 [],oo_ 50 (.bin .quo (.t 49) (.d (.int .i64 10000)))
 [0],om_ 6 50 [1,0,1]]))))) (.reg false [om_ 22 7 [],oo_ 23 (.bin .add (.t 22) (.d (.int .i64 1))) [0],om_ 7 23 [1,0,1]])))))) (.seq (.reg false [om_ 51 5 [],oo_ 52 (.call 73 [(.t 51)]) [0],om_ 4 52 [1,1,0,1]]) .ret)))))
theorem o_9o : fnOf Tryd.prog o_9m = some (o_9n, [.t 4], 53, false) := by kernel_rfl

def o_9p : C := (.seq (.reg false [oo_ 5 (.load false 1 (.t 1)) [],oo_ 6 (.bin .mul (.d (.int .i64 2)) (.t 5)) [0],oo_ 7 (.bin .shl (.d (.int .u64 1)) (.t 6)) [1],oo_ 8 (.bsl 34 1 1 [(.int .u64 0)] [(0,1,(.t 7))]) [2],oo_ 9 (.call 10
 [(.t 8)]) [3],oo_ 10 (.build [(.int .i64 0),(.int .i64 0),.nilsl,.nilsl] [(3,1,(.t 9))]) [4],oo_ 3 (.new 27 [(.int .i64 0),(.int .i64 0),.nilsl,.nilsl]) [],on_ (.store 4 (.t 3) (.t 10)) [6,5,4,0,1,2,3,4,5,6]]) (.seq
 (.reg false [oo_ 4 (.mv (.d (.int .i64 0))) []]) (.block 0 (.loop (.seq (.seq (.reg false [om_ 11 4 [],oo_ 12 (.bin .leq (.t 11) (.d (.int .i64 1023))) [0]]) (.cond (.t 12) .skip (.exit 0))) (.seq (.block 1 (.seq (.seq
 (.reg false [om_ 15 0 [],om_ 16 4 [],oo_ 17 (.load true 4 (.t 3)) [],oo_ 18 (.callv (.t 15) [(.t 16),(.t 17)]) [0,1,2],oo_ 19 (.un .not (.t 18)) [3]]) (.cond (.t 19) .ret .skip)) (.reg false [oo_ 20 (.load true 4 (.t
 3)) [],oo_ 21 (.load false 1 (.t 1)) [],oo_ 22 (.call 57 [(.t 20),(.t 21)]) [0,1],on_ (.store 4 (.t 3) (.t 22)) [2,2,0,1,2]]))) (.reg false [om_ 13 4 [],oo_ 14 (.bin .add (.t 13) (.d (.int .i64 1))) [0],om_ 4 14
 [1,0,1]])))))))
abbrev o_9q : FuncId := 58
def o_9r : C := (.seq (.reg false [oo_ 6 (.mv (.d (.int .u64 0))) [],oo_ 7 (.mv (.d (.int .u64 0))) [0]]) (.seq (.seq (.reg false [om_ 19 2 [],oo_ 20 (.bin .eql (.t 19) (.d (.int .u64 0))) [0]]) (.cond (.t 20) (.reg false [oo_ 21
 (.load false 1 .bad) [],on_ (.bad) [0]]) .skip)) (.seq (.seq (.reg false [om_ 22 2 [],om_ 23 0 [],oo_ 24 (.bin .leq (.t 22) (.t 23)) [0,1]]) (.cond (.t 24) (.reg false [oo_ 25 (.load false 1 .bad) [],on_ (.bad) [0]])
 .skip)) (.seq (.seq (.reg false [om_ 26 0 [],oo_ 27 (.bin .eql (.t 26) (.d (.int .u64 0))) [0]]) (.cond (.t 27) (.seq (.reg true [om_ 28 1 [],om_ 29 2 [],oo_ 30 (.bin .quo (.t 28) (.t 29)) [0,1],om_ 31 1 [],om_ 32 2
 [],oo_ 33 (.bin .rem (.t 31) (.t 32)) [3,4],om_ 6 30 [2,0,1,2],om_ 7 33 [5,6,0,1,2,3,4,5,6]]) .ret) .skip)) (.seq (.reg false [om_ 34 2 [],oo_ 35 (.call 78 [(.t 34)]) [0],oo_ 36 (.conv .u64 (.t 35)) [1],om_ 8 36
 [2,1,0,1,2]]) (.seq (.reg false [om_ 37 2 [],om_ 38 8 [],oo_ 39 (.bin .shl (.t 37) (.t 38)) [0,1],om_ 2 39 [2,0,1,2]]) (.seq (.reg false [om_ 40 2 [],oo_ 41 (.bin .shr (.t 40) (.d (.int .u64 32))) [0],om_ 9 41 [1,0,1]])
 (.seq (.reg false [om_ 42 2 [],oo_ 43 (.bin .and (.t 42) (.d (.int .u64 4294967295))) [0],om_ 10 43 [1,0,1]]) (.seq (.reg false [om_ 44 0 [],om_ 45 8 [],oo_ 46 (.bin .shl (.t 44) (.t 45)) [0,1],om_ 47 1 [],om_ 48 8
 [],oo_ 49 (.bin .sub (.d (.int .u64 64)) (.t 48)) [4],oo_ 50 (.bin .shr (.t 47) (.t 49)) [3,5],oo_ 51 (.bin .or (.t 46) (.t 50)) [2,6],om_ 11 51 [7,0,1,2,3,4,5,6,7]]) (.seq (.reg false [om_ 52 1 [],om_ 53 8 [],oo_ 54
 (.bin .shl (.t 52) (.t 53)) [0,1],om_ 12 54 [2,0,1,2]]) (.seq (.reg false [om_ 55 12 [],oo_ 56 (.bin .shr (.t 55) (.d (.int .u64 32))) [0],om_ 13 56 [1,0,1]]) (.seq (.reg false [om_ 57 12 [],oo_ 58 (.bin .and (.t 57)
 (.d (.int .u64 4294967295))) [0],om_ 14 58 [1,0,1]]) (.seq (.reg false [om_ 59 11 [],om_ 60 9 [],oo_ 61 (.bin .quo (.t 59) (.t 60)) [0,1],om_ 15 61 [2,0,1,2]]) (.seq (.reg false [om_ 62 11 [],om_ 63 15 [],om_ 64 9
 [],oo_ 65 (.bin .mul (.t 63) (.t 64)) [1,2],oo_ 66 (.bin .sub (.t 62) (.t 65)) [0,3],om_ 16 66 [4,0,1,2,3,4]]) (.seq (.block 0 (.loop (.seq (.seq (.reg false [om_ 67 15 [],oo_ 68 (.bin .geq (.t 67) (.d (.int .u64
 4294967296))) [0],om_ 69 68 [1],og_ 70 (.mv (.t 15)) 69 false [2],og_ 71 (.mv (.t 10)) 69 false [2],og_ 72 (.bin .mul (.t 70) (.t 71)) 69 false [3,4,2],og_ 73 (.mv (.t 16)) 69 false [2],og_ 74 (.bin .mul (.d (.int .u64
 4294967296)) (.t 73)) 69 false [6,2],og_ 75 (.mv (.t 13)) 69 false [2],og_ 76 (.bin .add (.t 74) (.t 75)) 69 false [7,8,2],og_ 77 (.bin .gtr (.t 72) (.t 76)) 69 false [5,9,2],oo_ 78 (.pick (.t 69) (.d (.bool true)) (.t
 77)) [2,10]]) (.cond (.t 78) .skip (.exit 0))) (.block 1 (.seq (.reg false [om_ 79 15 [],oo_ 80 (.bin .sub (.t 79) (.d (.int .u64 1))) [0],om_ 15 80 [1,0,1]]) (.seq (.reg false [om_ 81 16 [],om_ 82 9 [],oo_ 83 (.bin
 .add (.t 81) (.t 82)) [0,1],om_ 16 83 [2,0,1,2]]) (.seq (.reg false [om_ 84 16 [],oo_ 85 (.bin .geq (.t 84) (.d (.int .u64 4294967296))) [0]]) (.cond (.t 85) (.exit 0) .skip)))))))) (.seq (.reg false [om_ 86 11 [],oo_
 87 (.bin .mul (.t 86) (.d (.int .u64 4294967296))) [0],om_ 88 13 [],oo_ 89 (.bin .add (.t 87) (.t 88)) [1,2],om_ 90 15 [],om_ 91 2 [],oo_ 92 (.bin .mul (.t 90) (.t 91)) [4,5],oo_ 93 (.bin .sub (.t 89) (.t 92)) [3,6],om_
 17 93 [7,0,1,2,3,4,5,6,7]]) (.seq (.reg false [om_ 94 17 [],om_ 95 9 [],oo_ 96 (.bin .quo (.t 94) (.t 95)) [0,1],om_ 18 96 [2,0,1,2]]) (.seq (.reg false [om_ 97 17 [],om_ 98 18 [],om_ 99 9 [],oo_ 100 (.bin .mul (.t 98)
 (.t 99)) [1,2],oo_ 101 (.bin .sub (.t 97) (.t 100)) [0,3],om_ 16 101 [4,0,1,2,3,4]]) (.seq (.block 2 (.loop (.seq (.seq (.reg false [om_ 102 18 [],oo_ 103 (.bin .geq (.t 102) (.d (.int .u64 4294967296))) [0],om_ 104 103
 [1],og_ 105 (.mv (.t 18)) 104 false [2],og_ 106 (.mv (.t 10)) 104 false [2],og_ 107 (.bin .mul (.t 105) (.t 106)) 104 false [3,4,2],og_ 108 (.mv (.t 16)) 104 false [2],og_ 109 (.bin .mul (.d (.int .u64 4294967296)) (.t
 108)) 104 false [6,2],og_ 110 (.mv (.t 14)) 104 false [2],og_ 111 (.bin .add (.t 109) (.t 110)) 104 false [7,8,2],og_ 112 (.bin .gtr (.t 107) (.t 111)) 104 false [5,9,2],oo_ 113 (.pick (.t 104) (.d (.bool true)) (.t
 112)) [2,10]]) (.cond (.t 113) .skip (.exit 2))) (.block 3 (.seq (.reg false [om_ 114 18 [],oo_ 115 (.bin .sub (.t 114) (.d (.int .u64 1))) [0],om_ 18 115 [1,0,1]]) (.seq (.reg false [om_ 116 16 [],om_ 117 9 [],oo_ 118
 (.bin .add (.t 116) (.t 117)) [0,1],om_ 16 118 [2,0,1,2]]) (.seq (.reg false [om_ 119 16 [],oo_ 120 (.bin .geq (.t 119) (.d (.int .u64 4294967296))) [0]]) (.cond (.t 120) (.exit 2) .skip)))))))) (.seq (.reg false [om_
 121 15 [],oo_ 122 (.bin .mul (.t 121) (.d (.int .u64 4294967296))) [0],om_ 123 18 [],oo_ 124 (.bin .add (.t 122) (.t 123)) [1,2],om_ 125 17 [],oo_ 126 (.bin .mul (.t 125) (.d (.int .u64 4294967296))) [4],om_ 127 14
 [],oo_ 128 (.bin .add (.t 126) (.t 127)) [5,6],om_ 129 18 [],om_ 130 2 [],oo_ 131 (.bin .mul (.t 129) (.t 130)) [8,9],oo_ 132 (.bin .sub (.t 128) (.t 131)) [7,10],om_ 133 8 [],oo_ 134 (.bin .shr (.t 132) (.t 133))
 [11,12],om_ 6 124 [3,0,1,2,3],om_ 7 134 [13,14,0,1,2,3,4,5,6,7,8,9,10,11,12,13,14]]) .ret))))))))))))))))))))
theorem o_9s : fnOf Tryd.prog o_9q = some (o_9r, [.t 6, .t 7], 135, false) := by kernel_rfl

abbrev o_9t : FuncId := 59
def o_9u : C := (.seq (.reg false [⟨some 4,.mv (.d (.str ⟨#[]⟩)),none,[]⟩]) (.seq (.seq (.reg false [om_ 9 1 [],oo_ 10 (.bin .eql (.t 9) (.d (.int .i64 10))) [0]]) (.cond (.t 10) (.seq (.seq (.reg false [om_ 11 0 [],oo_ 12 (.bin .lss
 (.t 11) (.d (.int .u64 100))) [0]]) (.cond (.t 12) (.seq (.reg false [om_ 13 0 [],oo_ 14 (.conv .i64 (.t 13)) [0],oo_ 15 (.call 79 [(.t 14)]) [1],om_ 4 15 [2,2,0,1,2]]) .ret) .skip)) (.seq (.reg false [oo_ 5 (.new 112
 [(.int .u8 0),(.int .u8 0),(.int .u8 0),(.int .u8 0),(.int .u8 0),(.int .u8 0),(.int .u8 0),(.int .u8 0),(.int .u8 0),(.int .u8 0),(.int .u8 0),(.int .u8 0),(.int .u8 0),(.int .u8 0),(.int .u8 0),(.int .u8 0),(.int .u8
 0),(.int .u8 0),(.int .u8 0),(.int .u8 0),(.int .u8 0),(.int .u8 0),(.int .u8 0),(.int .u8 0)]) []]) (.seq (.reg false [om_ 16 0 [],oo_ 17 (.call 80 [(.t 16)]) [0],om_ 6 17 [1,1,0,1]]) (.seq (.reg false [om_ 18 6 [],oo_
 19 (.sla 24 1 (.t 5) none (some (.t 18))) [0],om_ 20 0 [],oo_ 21 (.call 81 [(.t 19),(.t 20)]) [1,2]]) (.seq (.reg false [om_ 22 6 [],oo_ 23 (.sla 24 1 (.t 5) none (some (.t 22))) [0],oo_ 24 (.bstr (.t 23)) [1],om_ 4 24
 [2,0,1,2]]) .ret))))) .skip)) (.seq (.reg false [om_ 26 0 [],om_ 27 1 [],oo_ 28 (.call 82 [(.d .nilsl),(.t 26),(.t 27),(.d (.bool false)),(.d (.bool false))]) [0,1],om_ 25 28 [2],oo_ 29 (.ext (.t 25) 0) [3],oo_ 30 (.ext
 (.t 25) 1) [3],om_ 7 29 [4,2,0,1,2,3,4],om_ 8 30 [5,6,0,1,2,3,4,5,6]]) (.seq (.reg false [om_ 31 8 [],om_ 4 31 [0,0]]) .ret))))
theorem o_9v : fnOf Tryd.prog o_9t = some (o_9u, [.t 4], 32, false) := by kernel_rfl

abbrev o_9w : FuncId := 60
def o_9x : C := (.seq (.reg false [oo_ 4 (.mv (.d (.int .u64 0))) [],oo_ 5 (.mv (.d (.int .u64 0))) [0]]) (.seq (.cond (.d (.bool false)) (.seq (.reg false [om_ 11 0 [],oo_ 12 (.conv .u32 (.t 11)) [0],om_ 13 1 [],oo_ 14 (.conv .u32 (.t
 13)) [2],oo_ 15 (.call 83 [(.t 12),(.t 14)]) [1,3],om_ 10 15 [4],oo_ 16 (.ext (.t 10) 0) [5],oo_ 17 (.ext (.t 10) 1) [5],om_ 6 16 [6,4,0,1,2,3,4,5,6],om_ 7 17 [7,8,0,1,2,3,4,5,6,7,8]]) (.seq (.reg false [om_ 18 6 [],oo_
 19 (.conv .u64 (.t 18)) [0],om_ 20 7 [],oo_ 21 (.conv .u64 (.t 20)) [2],om_ 4 19 [1,0,1],om_ 5 21 [3,4,0,1,2,3,4]]) .ret)) .skip) (.seq (.reg false [om_ 23 0 [],om_ 24 1 [],oo_ 25 (.call 84 [(.t 23),(.t 24)]) [0,1],om_
 22 25 [2],oo_ 26 (.ext (.t 22) 0) [3],oo_ 27 (.ext (.t 22) 1) [3],om_ 8 26 [4,2,0,1,2,3,4],om_ 9 27 [5,6,0,1,2,3,4,5,6]]) (.seq (.reg false [om_ 28 8 [],om_ 29 9 [],om_ 4 28 [0,0],om_ 5 29 [1,2,0,1,2]]) .ret))))
theorem o_9y : fnOf Tryd.prog o_9w = some (o_9x, [.t 4, .t 5], 30, false) := by kernel_rfl

abbrev o_9z : FuncId := 61
def o_a0 : C := (.seq (.reg false [oo_ 4 (.mv (.d (.bool false))) []]) (.seq (.reg false [om_ 5 0 [],om_ 6 1 [],oo_ 7 (.call 85 [(.t 5),(.t 6)]) [0,1],om_ 4 7 [2,2,0,1,2]]) .ret))
theorem o_a1 : fnOf Tryd.prog o_9z = some (o_a0, [.t 4], 8, false) := by kernel_rfl

abbrev o_a2 : FuncId := 67
def o_a3 : C := (.seq (.reg false [oo_ 2 (.box 25 (.t 0)) [],oo_ 3 (.box 25 (.t 1)) [],oo_ 4 (.new 25 [.nilsl]) []]) (.seq (.block 0 (.loop (.seq (.seq (.reg false [oo_ 8 (.load true 1 (.t 3)) [],oo_ 9 (.call 19 [(.t 8)]) [0],oo_ 10
 (.un .not (.t 9)) [1]]) (.cond (.t 10) .skip (.exit 0))) (.block 1 (.seq (.reg false [oo_ 12 (.load true 1 (.t 2)) [],oo_ 13 (.load true 1 (.t 3)) [],oo_ 14 (.call 69 [(.t 12),(.t 13)]) [0,1],om_ 11 14 [2],oo_ 15 (.ext
 (.t 11) 0) [3],oo_ 16 (.ext (.t 11) 1) [3],oo_ 17 (.ext (.t 11) 2) [3],oo_ 5 (.new 25 [.nilsl]) [],oo_ 6 (.new 25 [.nilsl]) [],on_ (.store 1 (.t 5) (.t 15)) [7,4,2,0,1,2,3,4,7,8],on_ (.store 1 (.t 6) (.t 16))
 [8,5,9,0,1,2,3,4,5,7,8,9],om_ 7 17 [6,10,0,1,2,3,4,5,6,7,8,9,10]]) (.reg true [oo_ 18 (.load true 1 (.t 3)) [],oo_ 19 (.load true 1 (.t 6)) [],on_ (.store 1 (.t 2) (.t 18)) [0,0],on_ (.store 1 (.t 3) (.t 19))
 [1,2,0,1,2]])))))) (.seq (.reg false [oo_ 20 (.fa 0 (.t 2)) [],oo_ 21 (.load false 1 (.t 20)) [0],oo_ 22 (.call 10 [(.t 21)]) [1],on_ (.store 1 (.t 4) (.t 22)) [2,2,0,1,2]]) .ret)))
theorem o_a4 : fnOf Tryd.prog o_a2 = some (o_a3, [.cell 4 true 1], 23, false) := by kernel_rfl

abbrev o_a5 : FuncId := 68
def o_a6 : C := (.seq (.reg false [oo_ 1 (.box 40 (.t 0)) [],oo_ 2 (.new 25 [.nilsl]) []]) (.seq (.reg false [oo_ 3 (.fa 0 (.t 1)) [],oo_ 4 (.load true 1 (.t 3)) [0],on_ (.store 1 (.t 2) (.t 4)) [1,0,1]]) .ret))
theorem o_a7 : fnOf Tryd.prog o_a5 = some (o_a6, [.cell 2 true 1], 5, false) := by kernel_rfl

abbrev o_a8 : FuncId := 69
def o_a9 : C := (.seq (.reg false [oo_ 2 (.box 25 (.t 0)) [],oo_ 3 (.box 25 (.t 1)) [],oo_ 4 (.new 25 [.nilsl]) [],oo_ 5 (.new 25 [.nilsl]) [],oo_ 6 (.mv (.d (.int .i64 0))) []]) (.seq (.block 0 (.seq (.reg false [oo_ 10 (.load true 1
 (.t 3)) [],oo_ 11 (.call 19 [(.t 10)]) [0],om_ 9 11 [1,1]]) (.cond (.t 9) (.seq (.reg false [oo_ 12 (.build [.nilsl] []) [],oo_ 13 (.build [.nilsl] []) [],on_ (.store 1 (.t 4) (.t 12)) [0,0],on_ (.store 1 (.t 5) (.t
 13)) [1,2,0,1,2],oo_ 6 (.mv (.d (.int .i64 7))) [3,0,1,2,3]]) .ret) (.seq (.reg false [oo_ 15 (.load true 1 (.t 2)) [],oo_ 16 (.load true 1 (.t 3)) [],oo_ 17 (.call 8 [(.t 15),(.t 16)]) [0,1],oo_ 18 (.bin .lss (.t 17)
 (.d (.int .i64 0))) [2],om_ 14 18 [3,2]]) (.cond (.t 14) (.seq (.reg false [oo_ 19 (.build [.nilsl] []) [],oo_ 20 (.fa 0 (.t 2)) [],oo_ 21 (.load false 1 (.t 20)) [1],oo_ 22 (.call 10 [(.t 21)]) [2],on_ (.store 1 (.t 4)
 (.t 19)) [0,3,0],on_ (.store 1 (.t 5) (.t 22)) [3,4,0,1,2,3,4],oo_ 6 (.mv (.d (.int .i64 0))) [5,0,1,2,3,4,5]]) .ret) (.seq (.reg false [oo_ 24 (.fa 0 (.t 3)) [],oo_ 25 (.load false 1 (.t 24)) [0],oo_ 26 (.len (.t 25))
 [1],oo_ 27 (.bin .eql (.t 26) (.d (.int .i64 1))) [2],om_ 23 27 [3]]) (.cond (.t 23) (.seq (.reg true [oo_ 29 (.fa 0 (.t 2)) [],oo_ 30 (.load false 1 (.t 29)) [0],oo_ 31 (.fa 0 (.t 3)) [],oo_ 32 (.load false 1 (.t 31))
 [2],oo_ 33 (.ix 1 (.t 32) (.d (.int .i64 0))) [3],oo_ 34 (.load false 1 (.t 33)) [4],oo_ 35 (.call 30 [(.t 30),(.t 34)]) [1,5],om_ 28 35 [6],oo_ 36 (.ext (.t 28) 0) [7],oo_ 37 (.ext (.t 28) 1) [7],om_ 7 36
 [8,6,0,1,2,3,4,5,6,7,8],om_ 8 37 [9,10,0,1,2,3,4,5,6,7,8,9,10]]) (.seq (.reg false [om_ 38 7 [],oo_ 39 (.call 31 [(.t 38)]) [0],om_ 40 8 [],oo_ 41 (.bsl 34 1 1 [(.int .u64 0)] [(0,1,(.t 40))]) [2],oo_ 42 (.call 10 [(.t
 41)]) [3,1],on_ (.store 1 (.t 4) (.t 39)) [1,4,0,1],on_ (.store 1 (.t 5) (.t 42)) [4,5,0,1,2,3,4,5],oo_ 6 (.mv (.d (.int .i64 0))) [6,0,1,2,3,4,5,6]]) .ret)) .skip))))))) (.seq (.reg false [oo_ 43 (.load true 1 (.t 2))
 [],oo_ 44 (.load true 1 (.t 3)) [],oo_ 45 (.call 88 [(.t 43),(.t 44)]) [0,1],oo_ 46 (.ext (.t 45) 0) [2],oo_ 47 (.ext (.t 45) 1) [2],oo_ 48 (.ext (.t 45) 2) [2],on_ (.store 1 (.t 4) (.t 46)) [3,2,0,1,2,3,4,5],on_
 (.store 1 (.t 5) (.t 47)) [4,6,0,1,2,3,4,5,6],om_ 6 48 [5,7,0,1,2,3,4,5,6,7]]) .ret)))
theorem o_aa : fnOf Tryd.prog o_a8 = some (o_a9, [.cell 4 true 1, .cell 5 true 1, .t 6], 49, false) := by kernel_rfl

abbrev o_ab : FuncId := 70
def o_ac : C := (.seq (.reg false [oo_ 3 (.box 25 (.t 1)) [],oo_ 4 (.new 40 [.nilsl,(.bool false)]) []]) (.seq (.reg true [oo_ 5 (.load true 1 (.t 3)) [],om_ 6 0 [],om_ 7 6 [1],og_ 8 (.load true 1 (.t 3)) 7 true [2],og_ 9 (.call 19
 [(.t 8)]) 7 true [3,2,2],og_ 10 (.un .not (.t 9)) 7 true [4,2],oo_ 11 (.pick (.t 7) (.t 10) (.d (.bool false))) [2,5],oo_ 12 (.build [.nilsl,(.bool false)] [(0,1,(.t 5)),(1,1,(.t 11))]) [0,6],on_ (.store 2 (.t 4) (.t
 12)) [7,4,0,1,2,3,4,5,6,7]]) .ret))
theorem o_ad : fnOf Tryd.prog o_ab = some (o_ac, [.cell 4 true 2], 13, false) := by kernel_rfl

abbrev o_ae : FuncId := 71
def o_af : C := (.seq (.reg false [oo_ 1 (.box 40 (.t 0)) [],oo_ 2 (.mv (.d (.bool false))) []]) (.seq (.reg false [oo_ 3 (.fa 1 (.t 1)) [],oo_ 4 (.load false 1 (.t 3)) [0],om_ 2 4 [1,0,1]]) .ret))
theorem o_ag : fnOf Tryd.prog o_ae = some (o_af, [.t 2], 5, false) := by kernel_rfl

abbrev o_ah : FuncId := 72
def o_ai : C := (.seq (.reg false [oo_ 2 (.box 25 (.t 0)) [],oo_ 3 (.box 25 (.t 1)) [],oo_ 4 (.new 25 [.nilsl]) []]) (.seq (.reg false [oo_ 14 (.fa 0 (.t 2)) [],oo_ 15 (.load false 1 (.t 14)) [0],oo_ 16 (.len (.t 15)) [1],oo_ 17 (.fa 0
 (.t 3)) [],oo_ 18 (.load false 1 (.t 17)) [3],oo_ 19 (.len (.t 18)) [4],oo_ 20 (.bin .add (.t 16) (.t 19)) [2,5],oo_ 21 (.mksl 34 1 8 [(.int .u64 0)] (.t 20) (.t 20)) [6,6],om_ 5 21 [7,0,1,2,3,4,5,6,7]]) (.seq (.seq
 (.reg false [oo_ 22 (.fa 0 (.t 2)) [],oo_ 23 (.load false 1 (.t 22)) [0],oo_ 24 (.len (.t 23)) [1],oo_ 25 (.mv (.d (.int .i64 0))) []]) (.block 0 (.loop (.seq (.reg false [oo_ 26 (.bin .lss (.t 25) (.t 24)) []]) (.seq
 (.cond (.t 26) .skip (.exit 0)) (.seq (.block 1 (.seq (.reg false [om_ 27 25 [],oo_ 28 (.ix 1 (.t 23) (.t 25)) [],oo_ 29 (.load false 1 (.t 28)) [1],om_ 6 27 [0,0,1,2],om_ 7 29 [2,3,0,1,2,3]]) (.seq (.reg false [oo_ 8
 (.mv (.d (.int .u64 0))) []]) (.seq (.seq (.reg false [oo_ 30 (.fa 0 (.t 3)) [],oo_ 31 (.load false 1 (.t 30)) [0],oo_ 32 (.len (.t 31)) [1],oo_ 33 (.mv (.d (.int .i64 0))) []]) (.block 2 (.loop (.seq (.reg false [oo_
 34 (.bin .lss (.t 33) (.t 32)) []]) (.seq (.cond (.t 34) .skip (.exit 2)) (.seq (.block 3 (.seq (.reg false [om_ 35 33 [],oo_ 36 (.ix 1 (.t 31) (.t 33)) [],oo_ 37 (.load false 1 (.t 36)) [1],om_ 9 35 [0,0,1,2],om_ 10 37
 [2,3,0,1,2,3]]) (.seq (.reg false [om_ 39 7 [],om_ 40 10 [],oo_ 41 (.call 84 [(.t 39),(.t 40)]) [0,1],om_ 38 41 [2],oo_ 42 (.ext (.t 38) 0) [3],oo_ 43 (.ext (.t 38) 1) [3],om_ 11 42 [4,2,0,1,2,3,4],om_ 12 43
 [5,6,0,1,2,3,4,5,6]]) (.seq (.reg false [oo_ 13 (.mv (.d (.int .u64 0))) []]) (.seq (.reg false [om_ 45 12 [],om_ 46 5 [],om_ 47 6 [],om_ 48 9 [],oo_ 49 (.bin .add (.t 47) (.t 48)) [2,3],oo_ 50 (.ix 1 (.t 46) (.t 49))
 [1,4],oo_ 51 (.load false 1 (.t 50)) [5],oo_ 52 (.call 36 [(.t 45),(.t 51),(.d (.int .u64 0))]) [0,6],om_ 44 52 [7],oo_ 53 (.ext (.t 44) 0) [8],oo_ 54 (.ext (.t 44) 1) [8],om_ 12 53 [9,7,0,1,2,3,4,5,6,7,8,9],om_ 13 54
 [10,11,0,1,2,3,4,5,6,7,8,9,10,11]]) (.seq (.reg false [om_ 55 11 [],om_ 56 13 [],oo_ 57 (.bin .add (.t 55) (.t 56)) [0,1],om_ 11 57 [2,0,1,2]]) (.seq (.reg false [om_ 59 12 [],om_ 60 8 [],oo_ 61 (.call 36 [(.t 59),(.t
 60),(.d (.int .u64 0))]) [0,1],om_ 58 61 [2],oo_ 62 (.ext (.t 58) 0) [3],oo_ 63 (.ext (.t 58) 1) [3],om_ 12 62 [4,2,0,1,2,3,4],om_ 13 63 [5,6,0,1,2,3,4,5,6]]) (.reg false [om_ 64 5 [],om_ 65 6 [],om_ 66 9 [],oo_ 67
 (.bin .add (.t 65) (.t 66)) [1,2],om_ 68 12 [],om_ 69 11 [],om_ 70 13 [],oo_ 71 (.bin .add (.t 69) (.t 70)) [5,6],oo_ 72 (.ix 1 (.t 64) (.t 67)) [0,3,0,1,2,3,4],on_ (.store 1 (.t 72) (.t 68)) [8,4,0,1,2,3,4],om_ 8 71
 [7,9,0,1,2,3,4,5,6,7,8,9]])))))))) (.reg false [oo_ 73 (.bin .add (.t 33) (.d (.int .i64 1))) [],om_ 33 73 [0]]))))))) (.reg false [om_ 74 5 [],om_ 75 6 [],oo_ 76 (.fa 0 (.t 3)) [],oo_ 77 (.load false 1 (.t 76)) [2],oo_
 78 (.len (.t 77)) [3],oo_ 79 (.bin .add (.t 75) (.t 78)) [1,4],om_ 80 8 [],oo_ 81 (.ix 1 (.t 74) (.t 79)) [0,5,0,1,2,3,4,5,6],on_ (.store 1 (.t 81) (.t 80)) [7,6,0,1,2,3,4,5,6]]))))) (.reg false [oo_ 82 (.bin .add (.t
 25) (.d (.int .i64 1))) [],om_ 25 82 [0]]))))))) (.seq (.reg false [om_ 83 5 [],oo_ 84 (.call 31 [(.t 83)]) [0],on_ (.store 1 (.t 4) (.t 84)) [1,1,0,1]]) .ret))))
theorem o_aj : fnOf Tryd.prog o_ah = some (o_ai, [.cell 4 true 1], 85, false) := by kernel_rfl

abbrev o_ak : FuncId := 73
def o_al : C := (.seq (.reg false [oo_ 2 (.mv (.d .nilsl)) []]) (.seq (.reg false [om_ 4 0 [],oo_ 5 (.len (.t 4)) [0],om_ 3 5 [1,0,1]]) (.seq (.block 0 (.loop (.seq (.seq (.reg false [om_ 6 3 [],oo_ 7 (.bin .gtr (.t 6) (.d (.int .i64
 0))) [0],om_ 8 7 [1],og_ 9 (.mv (.t 0)) 8 true [2],og_ 10 (.mv (.t 3)) 8 true [2],og_ 11 (.bin .sub (.t 10) (.d (.int .i64 1))) 8 true [4,2],og_ 12 (.ix 1 (.t 9) (.t 11)) 8 true [3,5,2],og_ 13 (.load false 1 (.t 12)) 8
 true [6,2],og_ 14 (.bin .eql (.t 13) (.d (.int .i64 0))) 8 true [7,2],oo_ 15 (.pick (.t 8) (.t 14) (.d (.bool false))) [2,8]]) (.cond (.t 15) .skip (.exit 0))) (.block 1 (.reg false [om_ 16 3 [],oo_ 17 (.bin .sub (.t
 16) (.d (.int .i64 1))) [0],om_ 3 17 [1,0,1]]))))) (.seq (.reg false [om_ 18 0 [],om_ 19 3 [],oo_ 20 (.slice 1 (.t 18) none (some (.t 19)) none) [0,1],om_ 2 20 [2,0,1,2]]) .ret))))
theorem o_am : fnOf Tryd.prog o_ak = some (o_al, [.t 2], 21, false) := by kernel_rfl

abbrev o_an : FuncId := 74
def o_ao : C := (.seq (.reg false [oo_ 4 (.mv (.d .nilsl)) []]) (.seq (.reg false [om_ 10 0 [],oo_ 11 (.len (.t 10)) [0],om_ 12 1 [],oo_ 13 (.len (.t 12)) [2],oo_ 14 (.bin .add (.t 11) (.t 13)) [1,3],oo_ 15 (.bin .add (.t 14) (.d (.int
 .i64 1))) [4],oo_ 16 (.mksl 3 1 8 [(.int .i64 0)] (.t 15) (.t 15)) [5,5],om_ 5 16 [6,0,1,2,3,4,5,6]]) (.seq (.seq (.reg false [oo_ 6 (.mv (.d (.int .i64 0))) []]) (.block 0 (.loop (.seq (.seq (.reg false [om_ 17 6
 [],om_ 18 0 [],oo_ 19 (.len (.t 18)) [1],oo_ 20 (.bin .lss (.t 17) (.t 19)) [0,2]]) (.cond (.t 20) .skip (.exit 0))) (.seq (.block 1 (.seq (.reg false [oo_ 7 (.mv (.d (.int .i64 0))) []]) (.seq (.reg false [oo_ 8 (.mv
 (.d (.int .i64 0))) []]) (.block 2 (.loop (.seq (.seq (.reg false [om_ 23 8 [],om_ 24 1 [],oo_ 25 (.len (.t 24)) [1],oo_ 26 (.bin .lss (.t 23) (.t 25)) [0,2],om_ 27 26 [3],og_ 28 (.mv (.t 7)) 27 false [4],og_ 29 (.bin
 .gtr (.t 28) (.d (.int .i64 0))) 27 false [5,4],oo_ 30 (.pick (.t 27) (.d (.bool true)) (.t 29)) [4,6]]) (.cond (.t 30) .skip (.exit 2))) (.seq (.block 3 (.seq (.reg false [om_ 33 5 [],om_ 34 6 [],om_ 35 8 [],oo_ 36
 (.bin .add (.t 34) (.t 35)) [1,2],oo_ 37 (.ix 1 (.t 33) (.t 36)) [0,3],oo_ 38 (.load false 1 (.t 37)) [4],om_ 39 7 [],oo_ 40 (.bin .add (.t 38) (.t 39)) [5,6],om_ 9 40 [7,0,1,2,3,4,5,6,7]]) (.seq (.seq (.reg false [om_
 41 8 [],om_ 42 1 [],oo_ 43 (.len (.t 42)) [1],oo_ 44 (.bin .lss (.t 41) (.t 43)) [0,2]]) (.cond (.t 44) (.reg true [om_ 45 9 [],om_ 46 0 [],om_ 47 6 [],oo_ 48 (.ix 1 (.t 46) (.t 47)) [1,2],oo_ 49 (.load false 1 (.t 48))
 [3],om_ 50 1 [],om_ 51 8 [],oo_ 52 (.ix 1 (.t 50) (.t 51)) [5,6],oo_ 53 (.load false 1 (.t 52)) [7],oo_ 54 (.bin .mul (.t 49) (.t 53)) [4,8],oo_ 55 (.bin .add (.t 45) (.t 54)) [0,9],om_ 9 55
 [10,0,1,2,3,4,5,6,7,8,9,10]]) .skip)) (.seq (.reg false [om_ 56 5 [],om_ 57 6 [],om_ 58 8 [],oo_ 59 (.bin .add (.t 57) (.t 58)) [1,2],om_ 60 9 [],oo_ 61 (.bin .rem (.t 60) (.d (.int .i64 10000))) [4],oo_ 62 (.ix 1 (.t
 56) (.t 59)) [0,3,0,1,2,3,4,5],on_ (.store 1 (.t 62) (.t 61)) [6,5,0,1,2,3,4,5]]) (.reg false [om_ 63 9 [],oo_ 64 (.bin .quo (.t 63) (.d (.int .i64 10000))) [0],om_ 7 64 [1,0,1]]))))) (.reg false [om_ 31 8 [],oo_ 32
 (.bin .add (.t 31) (.d (.int .i64 1))) [0],om_ 8 32 [1,0,1]])))))))) (.reg false [om_ 21 6 [],oo_ 22 (.bin .add (.t 21) (.d (.int .i64 1))) [0],om_ 6 22 [1,0,1]])))))) (.seq (.reg false [om_ 65 5 [],oo_ 66 (.call 73
 [(.t 65)]) [0],om_ 4 66 [1,1,0,1]]) .ret))))
theorem o_ap : fnOf Tryd.prog o_an = some (o_ao, [.t 4], 67, false) := by kernel_rfl

abbrev o_aq : FuncId := 78
def o_ar : C := (.seq (.reg false [oo_ 2 (.mv (.d (.int .i64 0))) []]) (.seq (.reg false [om_ 3 0 [],oo_ 4 (.call 92 [(.t 3)]) [0],oo_ 5 (.bin .sub (.d (.int .i64 64)) (.t 4)) [1],om_ 2 5 [2,1,0,1,2]]) .ret))
theorem o_as : fnOf Tryd.prog o_aq = some (o_ar, [.t 2], 6, false) := by kernel_rfl

abbrev o_at : FuncId := 79
def o_au : C := (.seq (.reg false [⟨some 2,.mv (.d (.str ⟨#[]⟩)),none,[]⟩]) (.seq (.seq (.reg false [om_ 3 0 [],oo_ 4 (.bin .lss (.t 3) (.d (.int .i64 10))) [0]]) (.cond (.t 4) (.seq (.reg false [om_ 5 0 [],om_ 6 0 [],oo_ 7 (.bin .add
 (.t 6) (.d (.int .i64 1))) [1],⟨some 8,.sstr (.d (.str ⟨#[48,49,50,51,52,53,54,55,56,57,97,98,99,100,101,102,103,104,105,106,107,108,109,110,111,112,113,114,115,116,117,118,119,120,121,122]⟩)) (some (.t 5)) (some (.t
 7)),none,[0,2]⟩,om_ 2 8 [3,0,1,2,3]]) .ret) .skip)) (.seq (.reg false [om_ 9 0 [],oo_ 10 (.bin .mul (.t 9) (.d (.int .i64 2))) [0],om_ 11 0 [],oo_ 12 (.bin .mul (.t 11) (.d (.int .i64 2))) [2],oo_ 13 (.bin .add (.t 12)
 (.d (.int .i64 2))) [3],⟨some 14,.sstr (.d (.str
 ⟨#[48,48,48,49,48,50,48,51,48,52,48,53,48,54,48,55,48,56,48,57,49,48,49,49,49,50,49,51,49,52,49,53,49,54,49,55,49,56,49,57,50,48,50,49,50,50,50,51,50,52,50,53,50,54,50,55,50,56,50,57,51,48,51,49,51,50,51,51,51,52,51,53,51,54,51,55,51,56,51,57,52,48,52,49,52,50,52,51,52,52,52,53,52,54,52,55,52,56,52,57,53,48,53,49,53,50,53,51,53,52,53,53,53,54,53,55,53,56,53,57,54,48,54,49,54,50,54,51,54,52,54,53,54,54,54,55,54,56,54,57,55,48,55,49,55,50,55,51,55,52,55,53,55,54,55,55,55,56,55,57,56,48,56,49,56,50,56,51,56,52,56,53,56,54,56,55,56,56,56,57,57,48,57,49,57,50,57,51,57,52,57,53,57,54,57,55,57,56,57,57]⟩)) (some (.t 10)) (some (.t 13)),none,[1,4]⟩,om_ 2 14 [5,0,1,2,3,4,5]]) .ret)))
theorem o_av : fnOf Tryd.prog o_at = some (o_au, [.t 2], 15, false) := by kernel_rfl

abbrev o_aw : FuncId := 80
def o_ax : C := (.seq (.reg false [oo_ 2 (.mv (.d (.int .i64 0))) []]) (.seq (.reg false [om_ 4 0 [],oo_ 5 (.call 92 [(.t 4)]) [0],oo_ 6 (.call 93 [(.t 5)]) [1,1],om_ 3 6 [2,2,0,1,2]]) (.seq (.reg false [om_ 7 3 [],om_ 8 0 [],om_ 9 3
 [],oo_ 10 (.gix [(.int .u64 1),(.int .u64 10),(.int .u64 100),(.int .u64 1000),(.int .u64 10000),(.int .u64 100000),(.int .u64 1000000),(.int .u64 10000000),(.int .u64 100000000),(.int .u64 1000000000),(.int .u64
 10000000000),(.int .u64 100000000000),(.int .u64 1000000000000),(.int .u64 10000000000000),(.int .u64 100000000000000),(.int .u64 1000000000000000),(.int .u64 10000000000000000),(.int .u64 100000000000000000),(.int .u64
 1000000000000000000),(.int .u64 10000000000000000000)] 20 1 (.t 9)) [2],oo_ 11 (.load false 1 (.t 10)) [3],oo_ 12 (.bin .geq (.t 8) (.t 11)) [1,4],oo_ 13 (.call 94 [(.t 12)]) [5],oo_ 14 (.bin .add (.t 7) (.t 13))
 [0,6],om_ 2 14 [7,6,0,1,2,3,4,5,6,7]]) .ret)))
theorem o_ay : fnOf Tryd.prog o_aw = some (o_ax, [.t 2], 15, false) := by kernel_rfl

abbrev o_az : FuncId := 81
def o_b0 : C := (.seq (.reg false [om_ 17 0 [],oo_ 18 (.len (.t 17)) [0],om_ 4 18 [1,0,1]]) (.seq (.block 0 (.loop (.seq (.seq (.reg false [om_ 19 4 [],oo_ 20 (.bin .geq (.t 19) (.d (.int .i64 8))) [0]]) (.cond (.t 20) .skip (.exit
 0))) (.block 1 (.seq (.reg false [om_ 21 1 [],oo_ 22 (.bin .rem (.t 21) (.d (.int .u64 100000000))) [0],oo_ 23 (.conv .u32 (.t 22)) [1],om_ 5 23 [2,0,1,2]]) (.seq (.reg false [om_ 24 1 [],oo_ 25 (.bin .quo (.t 24) (.d
 (.int .u64 100000000))) [0],om_ 1 25 [1,0,1]]) (.seq (.reg false [om_ 26 5 [],oo_ 27 (.bin .quo (.t 26) (.d (.int .u32 10000))) [0],om_ 28 5 [],oo_ 29 (.bin .rem (.t 28) (.d (.int .u32 10000))) [2],om_ 6 27 [1,0,1],om_
 7 29 [3,4,0,1,2,3,4]]) (.seq (.reg false [om_ 30 7 [],oo_ 31 (.bin .quo (.t 30) (.d (.int .u32 100))) [0],oo_ 32 (.bin .mul (.t 31) (.d (.int .u32 2))) [1],om_ 33 7 [],oo_ 34 (.bin .rem (.t 33) (.d (.int .u32 100)))
 [3],oo_ 35 (.bin .mul (.t 34) (.d (.int .u32 2))) [4],om_ 8 32 [2,0,1,2],om_ 9 35 [5,6,0,1,2,3,4,5,6]]) (.seq (.reg false [om_ 36 6 [],oo_ 37 (.bin .quo (.t 36) (.d (.int .u32 100))) [0],oo_ 38 (.bin .mul (.t 37) (.d
 (.int .u32 2))) [1],om_ 39 6 [],oo_ 40 (.bin .rem (.t 39) (.d (.int .u32 100))) [3],oo_ 41 (.bin .mul (.t 40) (.d (.int .u32 2))) [4],om_ 10 38 [2,0,1,2],om_ 11 41 [5,6,0,1,2,3,4,5,6]]) (.seq (.reg true [om_ 42 0 [],om_
 43 4 [],oo_ 44 (.bin .sub (.t 43) (.d (.int .i64 1))) [1],om_ 45 0 [],om_ 46 4 [],oo_ 47 (.bin .sub (.t 46) (.d (.int .i64 2))) [4],om_ 48 9 [],oo_ 49 (.bin .add (.t 48) (.d (.int .u32 1))) [6],⟨some 50,.gstr (.d (.str
 ⟨#[48,48,48,49,48,50,48,51,48,52,48,53,48,54,48,55,48,56,48,57,49,48,49,49,49,50,49,51,49,52,49,53,49,54,49,55,49,56,49,57,50,48,50,49,50,50,50,51,50,52,50,53,50,54,50,55,50,56,50,57,51,48,51,49,51,50,51,51,51,52,51,53,51,54,51,55,51,56,51,57,52,48,52,49,52,50,52,51,52,52,52,53,52,54,52,55,52,56,52,57,53,48,53,49,53,50,53,51,53,52,53,53,53,54,53,55,53,56,53,57,54,48,54,49,54,50,54,51,54,52,54,53,54,54,54,55,54,56,54,57,55,48,55,49,55,50,55,51,55,52,55,53,55,54,55,55,55,56,55,57,56,48,56,49,56,50,56,51,56,52,56,53,56,54,56,55,56,56,56,57,57,48,57,49,57,50,57,51,57,52,57,53,57,54,57,55,57,56,57,57]⟩)) (.t 49),none,[7]⟩,om_ 51 9 [],⟨some 52,.gstr (.d (.str ⟨#[48,48,48,49,48,50,48,51,48,52,48,53,48,54,48,55,48,56,48,57,49,48,49,49,49,50,49,51,49,52,49,53,49,54,49,55,49,56,49,57,50,48,50,49,50,50,50,51,50,52,50,53,50,54,50,55,50,56,50,57,51,48,51,49,51,50,51,51,51,52,51,53,51,54,51,55,51,56,51,57,52,48,52,49,52,50,52,51,52,52,52,53,52,54,52,55,52,56,52,57,53,48,53,49,53,50,53,51,53,52,53,53,53,54,53,55,53,56,53,57,54,48,54,49,54,50,54,51,54,52,54,53,54,54,54,55,54,56,54,57,55,48,55,49,55,50,55,51,55,52,55,53,55,54,55,55,55,56,55,57,56,48,56,49,56,50,56,51,56,52,56,53,56,54,56,55,56,56,56,57,57,48,57,49,57,50,57,51,57,52,57,53,57,54,57,55,57,56,57,57]⟩)) (.t 51),none,[9]⟩,oo_ 53 (.ix 1 (.t 42) (.t 44)) [0,2,0,1,2,6,7,8],on_ (.store 1 (.t 53) (.t 50)) [11,8,0,1,2,6,7,8],oo_ 54 (.ix 1 (.t 45) (.t 47)) [3,5,0,1,2,3,4,5,6,7,8,9,10,11,12],on_ (.store 1 (.t 54) (.t 52)) [13,10,12,0,1,2,3,4,5,6,7,8,9,10,11,12]]) (.seq (.reg true [om_ 55 0 [],om_ 56 4 [],oo_ 57 (.bin .sub (.t 56) (.d (.int .i64 3))) [1],om_ 58 0 [],om_ 59 4 [],oo_ 60 (.bin .sub (.t 59) (.d (.int .i64 4))) [4],om_ 61 8 [],oo_ 62 (.bin .add (.t 61) (.d (.int .u32 1))) [6],⟨some 63,.gstr (.d (.str ⟨#[48,48,48,49,48,50,48,51,48,52,48,53,48,54,48,55,48,56,48,57,49,48,49,49,49,50,49,51,49,52,49,53,49,54,49,55,49,56,49,57,50,48,50,49,50,50,50,51,50,52,50,53,50,54,50,55,50,56,50,57,51,48,51,49,51,50,51,51,51,52,51,53,51,54,51,55,51,56,51,57,52,48,52,49,52,50,52,51,52,52,52,53,52,54,52,55,52,56,52,57,53,48,53,49,53,50,53,51,53,52,53,53,53,54,53,55,53,56,53,57,54,48,54,49,54,50,54,51,54,52,54,53,54,54,54,55,54,56,54,57,55,48,55,49,55,50,55,51,55,52,55,53,55,54,55,55,55,56,55,57,56,48,56,49,56,50,56,51,56,52,56,53,56,54,56,55,56,56,56,57,57,48,57,49,57,50,57,51,57,52,57,53,57,54,57,55,57,56,57,57]⟩)) (.t 62),none,[7]⟩,om_ 64 8 [],⟨some 65,.gstr (.d (.str ⟨#[48,48,48,49,48,50,48,51,48,52,48,53,48,54,48,55,48,56,48,57,49,48,49,49,49,50,49,51,49,52,49,53,49,54,49,55,49,56,49,57,50,48,50,49,50,50,50,51,50,52,50,53,50,54,50,55,50,56,50,57,51,48,51,49,51,50,51,51,51,52,51,53,51,54,51,55,51,56,51,57,52,48,52,49,52,50,52,51,52,52,52,53,52,54,52,55,52,56,52,57,53,48,53,49,53,50,53,51,53,52,53,53,53,54,53,55,53,56,53,57,54,48,54,49,54,50,54,51,54,52,54,53,54,54,54,55,54,56,54,57,55,48,55,49,55,50,55,51,55,52,55,53,55,54,55,55,55,56,55,57,56,48,56,49,56,50,56,51,56,52,56,53,56,54,56,55,56,56,56,57,57,48,57,49,57,50,57,51,57,52,57,53,57,54,57,55,57,56,57,57]⟩)) (.t 64),none,[9]⟩,oo_ 66 (.ix 1 (.t 55) (.t 57)) [0,2,0,1,2,6,7,8],on_ (.store 1 (.t 66) (.t 63)) [11,8,0,1,2,6,7,8],oo_ 67 (.ix 1 (.t 58) (.t 60)) [3,5,0,1,2,3,4,5,6,7,8,9,10,11,12],on_ (.store 1 (.t 67) (.t 65)) [13,10,12,0,1,2,3,4,5,6,7,8,9,10,11,12]]) (.seq (.reg true [om_ 68 0 [],om_ 69 4 [],oo_ 70 (.bin .sub (.t 69) (.d (.int .i64 5))) [1],om_ 71 0 [],om_ 72 4 [],oo_ 73 (.bin .sub (.t 72) (.d (.int .i64 6))) [4],om_ 74 11 [],oo_ 75 (.bin .add (.t 74) (.d (.int .u32 1))) [6],⟨some 76,.gstr (.d (.str ⟨#[48,48,48,49,48,50,48,51,48,52,48,53,48,54,48,55,48,56,48,57,49,48,49,49,49,50,49,51,49,52,49,53,49,54,49,55,49,56,49,57,50,48,50,49,50,50,50,51,50,52,50,53,50,54,50,55,50,56,50,57,51,48,51,49,51,50,51,51,51,52,51,53,51,54,51,55,51,56,51,57,52,48,52,49,52,50,52,51,52,52,52,53,52,54,52,55,52,56,52,57,53,48,53,49,53,50,53,51,53,52,53,53,53,54,53,55,53,56,53,57,54,48,54,49,54,50,54,51,54,52,54,53,54,54,54,55,54,56,54,57,55,48,55,49,55,50,55,51,55,52,55,53,55,54,55,55,55,56,55,57,56,48,56,49,56,50,56,51,56,52,56,53,56,54,56,55,56,56,56,57,57,48,57,49,57,50,57,51,57,52,57,53,57,54,57,55,57,56,57,57]⟩)) (.t 75),none,[7]⟩,om_ 77 11 [],⟨some 78,.gstr (.d (.str ⟨#[48,48,48,49,48,50,48,51,48,52,48,53,48,54,48,55,48,56,48,57,49,48,49,49,49,50,49,51,49,52,49,53,49,54,49,55,49,56,49,57,50,48,50,49,50,50,50,51,50,52,50,53,50,54,50,55,50,56,50,57,51,48,51,49,51,50,51,51,51,52,51,53,51,54,51,55,51,56,51,57,52,48,52,49,52,50,52,51,52,52,52,53,52,54,52,55,52,56,52,57,53,48,53,49,53,50,53,51,53,52,53,53,53,54,53,55,53,56,53,57,54,48,54,49,54,50,54,51,54,52,54,53,54,54,54,55,54,56,54,57,55,48,55,49,55,50,55,51,55,52,55,53,55,54,55,55,55,56,55,57,56,48,56,49,56,50,56,51,56,52,56,53,56,54,56,55,56,56,56,57,57,48,57,49,57,50,57,51,57,52,57,53,57,54,57,55,57,56,57,57]⟩)) (.t 77),none,[9]⟩,oo_ 79 (.ix 1 (.t 68) (.t 70)) [0,2,0,1,2,6,7,8],on_ (.store 1 (.t 79) (.t 76)) [11,8,0,1,2,6,7,8],oo_ 80 (.ix 1 (.t 71) (.t 73)) [3,5,0,1,2,3,4,5,6,7,8,9,10,11,12],on_ (.store 1 (.t 80) (.t 78)) [13,10,12,0,1,2,3,4,5,6,7,8,9,10,11,12]]) (.seq (.reg true [om_ 81 0 [],om_ 82 4 [],oo_ 83 (.bin .sub (.t 82) (.d (.int .i64 7))) [1],om_ 84 0 [],om_ 85 4 [],oo_ 86 (.bin .sub (.t 85) (.d (.int .i64 8))) [4],om_ 87 10 [],oo_ 88 (.bin .add (.t 87) (.d (.int .u32 1))) [6],⟨some 89,.gstr (.d (.str ⟨#[48,48,48,49,48,50,48,51,48,52,48,53,48,54,48,55,48,56,48,57,49,48,49,49,49,50,49,51,49,52,49,53,49,54,49,55,49,56,49,57,50,48,50,49,50,50,50,51,50,52,50,53,50,54,50,55,50,56,50,57,51,48,51,49,51,50,51,51,51,52,51,53,51,54,51,55,51,56,51,57,52,48,52,49,52,50,52,51,52,52,52,53,52,54,52,55,52,56,52,57,53,48,53,49,53,50,53,51,53,52,53,53,53,54,53,55,53,56,53,57,54,48,54,49,54,50,54,51,54,52,54,53,54,54,54,55,54,56,54,57,55,48,55,49,55,50,55,51,55,52,55,53,55,54,55,55,55,56,55,57,56,48,56,49,56,50,56,51,56,52,56,53,56,54,56,55,56,56,56,57,57,48,57,49,57,50,57,51,57,52,57,53,57,54,57,55,57,56,57,57]⟩)) (.t 88),none,[7]⟩,om_ 90 10 [],⟨some 91,.gstr (.d (.str ⟨#[48,48,48,49,48,50,48,51,48,52,48,53,48,54,48,55,48,56,48,57,49,48,49,49,49,50,49,51,49,52,49,53,49,54,49,55,49,56,49,57,50,48,50,49,50,50,50,51,50,52,50,53,50,54,50,55,50,56,50,57,51,48,51,49,51,50,51,51,51,52,51,53,51,54,51,55,51,56,51,57,52,48,52,49,52,50,52,51,52,52,52,53,52,54,52,55,52,56,52,57,53,48,53,49,53,50,53,51,53,52,53,53,53,54,53,55,53,56,53,57,54,48,54,49,54,50,54,51,54,52,54,53,54,54,54,55,54,56,54,57,55,48,55,49,55,50,55,51,55,52,55,53,55,54,55,55,55,56,55,57,56,48,56,49,56,50,56,51,56,52,56,53,56,54,56,55,56,56,56,57,57,48,57,49,57,50,57,51,57,52,57,53,57,54,57,55,57,56,57,57]⟩)) (.t 90),none,[9]⟩,oo_ 92 (.ix 1 (.t 81) (.t 83)) [0,2,0,1,2,6,7,8],on_ (.store 1 (.t 92) (.t 89)) [11,8,0,1,2,6,7,8],oo_ 93 (.ix 1 (.t 84) (.t 86)) [3,5,0,1,2,3,4,5,6,7,8,9,10,11,12],on_ (.store 1 (.t 93) (.t 91)) [13,10,12,0,1,2,3,4,5,6,7,8,9,10,11,12]]) (.reg false [om_ 94 4 [],oo_ 95 (.bin .sub (.t 94) (.d (.int .i64 8))) [0],om_ 4 95 [1,0,1]])))))))))))))) (.seq (.reg false [om_ 96 1 [],oo_ 97 (.conv .u32 (.t 96)) [0],om_ 12 97 [1,0,1]]) (.seq (.seq (.reg false [om_ 98 4 [],oo_ 99 (.bin .geq (.t 98) (.d (.int .i64 4))) [0]]) (.cond (.t 99) (.seq (.reg false [om_ 100 12 [],oo_ 101 (.bin .rem (.t 100) (.d (.int .u32 10000))) [0],om_ 13 101 [1,0,1]]) (.seq (.reg false [om_ 102 12 [],oo_ 103 (.bin .quo (.t 102) (.d (.int .u32 10000))) [0],om_ 12 103 [1,0,1]]) (.seq (.reg false [om_ 104 13 [],oo_ 105 (.bin .quo (.t 104) (.d (.int .u32 100))) [0],oo_ 106 (.bin .mul (.t 105) (.d (.int .u32 2))) [1],om_ 107 13 [],oo_ 108 (.bin .rem (.t 107) (.d (.int .u32 100))) [3],oo_ 109 (.bin .mul (.t 108) (.d (.int .u32 2))) [4],om_ 14 106 [2,0,1,2],om_ 15 109 [5,6,0,1,2,3,4,5,6]]) (.seq (.reg true [om_ 110 0 [],om_ 111 4 [],oo_ 112 (.bin .sub (.t 111) (.d (.int .i64 1))) [1],om_ 113 0 [],om_ 114 4 [],oo_ 115 (.bin .sub (.t 114) (.d (.int .i64 2))) [4],om_ 116 15 [],oo_ 117 (.bin .add (.t 116) (.d (.int .u32 1))) [6],⟨some 118,.gstr (.d (.str ⟨#[48,48,48,49,48,50,48,51,48,52,48,53,48,54,48,55,48,56,48,57,49,48,49,49,49,50,49,51,49,52,49,53,49,54,49,55,49,56,49,57,50,48,50,49,50,50,50,51,50,52,50,53,50,54,50,55,50,56,50,57,51,48,51,49,51,50,51,51,51,52,51,53,51,54,51,55,51,56,51,57,52,48,52,49,52,50,52,51,52,52,52,53,52,54,52,55,52,56,52,57,53,48,53,49,53,50,53,51,53,52,53,53,53,54,53,55,53,56,53,57,54,48,54,49,54,50,54,51,54,52,54,53,54,54,54,55,54,56,54,57,55,48,55,49,55,50,55,51,55,52,55,53,55,54,55,55,55,56,55,57,56,48,56,49,56,50,56,51,56,52,56,53,56,54,56,55,56,56,56,57,57,48,57,49,57,50,57,51,57,52,57,53,57,54,57,55,57,56,57,57]⟩)) (.t 117),none,[7]⟩,om_ 119 15 [],⟨some 120,.gstr (.d (.str ⟨#[48,48,48,49,48,50,48,51,48,52,48,53,48,54,48,55,48,56,48,57,49,48,49,49,49,50,49,51,49,52,49,53,49,54,49,55,49,56,49,57,50,48,50,49,50,50,50,51,50,52,50,53,50,54,50,55,50,56,50,57,51,48,51,49,51,50,51,51,51,52,51,53,51,54,51,55,51,56,51,57,52,48,52,49,52,50,52,51,52,52,52,53,52,54,52,55,52,56,52,57,53,48,53,49,53,50,53,51,53,52,53,53,53,54,53,55,53,56,53,57,54,48,54,49,54,50,54,51,54,52,54,53,54,54,54,55,54,56,54,57,55,48,55,49,55,50,55,51,55,52,55,53,55,54,55,55,55,56,55,57,56,48,56,49,56,50,56,51,56,52,56,53,56,54,56,55,56,56,56,57,57,48,57,49,57,50,57,51,57,52,57,53,57,54,57,55,57,56,57,57]⟩)) (.t 119),none,[9]⟩,oo_ 121 (.ix 1 (.t 110) (.t 112)) [0,2,0,1,2,6,7,8],on_ (.store 1 (.t 121) (.t 118)) [11,8,0,1,2,6,7,8],oo_ 122 (.ix 1 (.t 113) (.t 115)) [3,5,0,1,2,3,4,5,6,7,8,9,10,11,12],on_ (.store 1 (.t 122) (.t 120)) [13,10,12,0,1,2,3,4,5,6,7,8,9,10,11,12]]) (.seq (.reg true [om_ 123 0 [],om_ 124 4 [],oo_ 125 (.bin .sub (.t 124) (.d (.int .i64 3))) [1],om_ 126 0 [],om_ 127 4 [],oo_ 128 (.bin .sub (.t 127) (.d (.int .i64 4))) [4],om_ 129 14 [],oo_ 130 (.bin .add (.t 129) (.d (.int .u32 1))) [6],⟨some 131,.gstr (.d (.str ⟨#[48,48,48,49,48,50,48,51,48,52,48,53,48,54,48,55,48,56,48,57,49,48,49,49,49,50,49,51,49,52,49,53,49,54,49,55,49,56,49,57,50,48,50,49,50,50,50,51,50,52,50,53,50,54,50,55,50,56,50,57,51,48,51,49,51,50,51,51,51,52,51,53,51,54,51,55,51,56,51,57,52,48,52,49,52,50,52,51,52,52,52,53,52,54,52,55,52,56,52,57,53,48,53,49,53,50,53,51,53,52,53,53,53,54,53,55,53,56,53,57,54,48,54,49,54,50,54,51,54,52,54,53,54,54,54,55,54,56,54,57,55,48,55,49,55,50,55,51,55,52,55,53,55,54,55,55,55,56,55,57,56,48,56,49,56,50,56,51,56,52,56,53,56,54,56,55,56,56,56,57,57,48,57,49,57,50,57,51,57,52,57,53,57,54,57,55,57,56,57,57]⟩)) (.t 130),none,[7]⟩,om_ 132 14 [],⟨some 133,.gstr (.d (.str ⟨#[48,48,48,49,48,50,48,51,48,52,48,53,48,54,48,55,48,56,48,57,49,48,49,49,49,50,49,51,49,52,49,53,49,54,49,55,49,56,49,57,50,48,50,49,50,50,50,51,50,52,50,53,50,54,50,55,50,56,50,57,51,48,51,49,51,50,51,51,51,52,51,53,51,54,51,55,51,56,51,57,52,48,52,49,52,50,52,51,52,52,52,53,52,54,52,55,52,56,52,57,53,48,53,49,53,50,53,51,53,52,53,53,53,54,53,55,53,56,53,57,54,48,54,49,54,50,54,51,54,52,54,53,54,54,54,55,54,56,54,57,55,48,55,49,55,50,55,51,55,52,55,53,55,54,55,55,55,56,55,57,56,48,56,49,56,50,56,51,56,52,56,53,56,54,56,55,56,56,56,57,57,48,57,49,57,50,57,51,57,52,57,53,57,54,57,55,57,56,57,57]⟩)) (.t 132),none,[9]⟩,oo_ 134 (.ix 1 (.t 123) (.t 125)) [0,2,0,1,2,6,7,8],on_ (.store 1 (.t 134) (.t 131)) [11,8,0,1,2,6,7,8],oo_ 135 (.ix 1 (.t 126) (.t 128)) [3,5,0,1,2,3,4,5,6,7,8,9,10,11,12],on_ (.store 1 (.t 135) (.t 133)) [13,10,12,0,1,2,3,4,5,6,7,8,9,10,11,12]]) (.reg false [om_ 136 4 [],oo_ 137 (.bin .sub (.t 136) (.d (.int .i64 4))) [0],om_ 4 137 [1,0,1]])))))) .skip)) (.seq (.seq (.reg false [om_ 138 4 [],oo_ 139 (.bin .geq (.t 138) (.d (.int .i64 2))) [0]]) (.cond (.t 139) (.seq (.reg false [om_ 140 12 [],oo_ 141 (.bin .rem (.t 140) (.d (.int .u32 100))) [0],oo_ 142 (.bin .mul (.t 141) (.d (.int .u32 2))) [1],om_ 16 142 [2,0,1,2]]) (.seq (.reg false [om_ 143 12 [],oo_ 144 (.bin .quo (.t 143) (.d (.int .u32 100))) [0],om_ 12 144 [1,0,1]]) (.seq (.reg true [om_ 145 0 [],om_ 146 4 [],oo_ 147 (.bin .sub (.t 146) (.d (.int .i64 1))) [1],om_ 148 0 [],om_ 149 4 [],oo_ 150 (.bin .sub (.t 149) (.d (.int .i64 2))) [4],om_ 151 16 [],oo_ 152 (.bin .add (.t 151) (.d (.int .u32 1))) [6],⟨some 153,.gstr (.d (.str ⟨#[48,48,48,49,48,50,48,51,48,52,48,53,48,54,48,55,48,56,48,57,49,48,49,49,49,50,49,51,49,52,49,53,49,54,49,55,49,56,49,57,50,48,50,49,50,50,50,51,50,52,50,53,50,54,50,55,50,56,50,57,51,48,51,49,51,50,51,51,51,52,51,53,51,54,51,55,51,56,51,57,52,48,52,49,52,50,52,51,52,52,52,53,52,54,52,55,52,56,52,57,53,48,53,49,53,50,53,51,53,52,53,53,53,54,53,55,53,56,53,57,54,48,54,49,54,50,54,51,54,52,54,53,54,54,54,55,54,56,54,57,55,48,55,49,55,50,55,51,55,52,55,53,55,54,55,55,55,56,55,57,56,48,56,49,56,50,56,51,56,52,56,53,56,54,56,55,56,56,56,57,57,48,57,49,57,50,57,51,57,52,57,53,57,54,57,55,57,56,57,57]⟩)) (.t 152),none,[7]⟩,om_ 154 16 [],⟨some 155,.gstr (.d (.str ⟨#[48,48,48,49,48,50,48,51,48,52,48,53,48,54,48,55,48,56,48,57,49,48,49,49,49,50,49,51,49,52,49,53,49,54,49,55,49,56,49,57,50,48,50,49,50,50,50,51,50,52,50,53,50,54,50,55,50,56,50,57,51,48,51,49,51,50,51,51,51,52,51,53,51,54,51,55,51,56,51,57,52,48,52,49,52,50,52,51,52,52,52,53,52,54,52,55,52,56,52,57,53,48,53,49,53,50,53,51,53,52,53,53,53,54,53,55,53,56,53,57,54,48,54,49,54,50,54,51,54,52,54,53,54,54,54,55,54,56,54,57,55,48,55,49,55,50,55,51,55,52,55,53,55,54,55,55,55,56,55,57,56,48,56,49,56,50,56,51,56,52,56,53,56,54,56,55,56,56,56,57,57,48,57,49,57,50,57,51,57,52,57,53,57,54,57,55,57,56,57,57]⟩)) (.t 154),none,[9]⟩,oo_ 156 (.ix 1 (.t 145) (.t 147)) [0,2,0,1,2,6,7,8],on_ (.store 1 (.t 156) (.t 153)) [11,8,0,1,2,6,7,8],oo_ 157 (.ix 1 (.t 148) (.t 150)) [3,5,0,1,2,3,4,5,6,7,8,9,10,11,12],on_ (.store 1 (.t 157) (.t 155)) [13,10,12,0,1,2,3,4,5,6,7,8,9,10,11,12]]) (.reg false [om_ 158 4 [],oo_ 159 (.bin .sub (.t 158) (.d (.int .i64 2))) [0],om_ 4 159 [1,0,1]])))) .skip)) (.seq (.reg false [om_ 160 4 [],oo_ 161 (.bin .gtr (.t 160) (.d (.int .i64 0))) [0]]) (.cond (.t 161) (.reg false [om_ 162 0 [],om_ 163 12 [],oo_ 164 (.bin .add (.d (.int .u32 48)) (.t 163)) [1],oo_ 165 (.conv .u8 (.t 164)) [2],oo_ 166 (.ix 1 (.t 162) (.d (.int .i64 0))) [0,0,1,2,3],on_ (.store 1 (.t 166) (.t 165)) [4,3,0,1,2,3]]) .skip)))))))
theorem o_b1 : fnOf Tryd.prog o_az = some (o_b0, [], 167, false) := by kernel_rfl

abbrev o_b2 : FuncId := 84
def o_b3 : C := (.seq (.reg false [oo_ 4 (.mv (.d (.int .u64 0))) [],oo_ 5 (.mv (.d (.int .u64 0))) [0]]) (.seq (.reg false [om_ 14 0 [],oo_ 15 (.bin .and (.t 14) (.d (.int .u64 4294967295))) [0],om_ 6 15 [1,0,1]]) (.seq (.reg false
 [om_ 16 0 [],oo_ 17 (.bin .shr (.t 16) (.d (.int .u64 32))) [0],om_ 7 17 [1,0,1]]) (.seq (.reg false [om_ 18 1 [],oo_ 19 (.bin .and (.t 18) (.d (.int .u64 4294967295))) [0],om_ 8 19 [1,0,1]]) (.seq (.reg false [om_ 20 1
 [],oo_ 21 (.bin .shr (.t 20) (.d (.int .u64 32))) [0],om_ 9 21 [1,0,1]]) (.seq (.reg false [om_ 22 6 [],om_ 23 8 [],oo_ 24 (.bin .mul (.t 22) (.t 23)) [0,1],om_ 10 24 [2,0,1,2]]) (.seq (.reg false [om_ 25 7 [],om_ 26 8
 [],oo_ 27 (.bin .mul (.t 25) (.t 26)) [0,1],om_ 28 10 [],oo_ 29 (.bin .shr (.t 28) (.d (.int .u64 32))) [3],oo_ 30 (.bin .add (.t 27) (.t 29)) [2,4],om_ 11 30 [5,0,1,2,3,4,5]]) (.seq (.reg false [om_ 31 11 [],oo_ 32
 (.bin .and (.t 31) (.d (.int .u64 4294967295))) [0],om_ 12 32 [1,0,1]]) (.seq (.reg false [om_ 33 11 [],oo_ 34 (.bin .shr (.t 33) (.d (.int .u64 32))) [0],om_ 13 34 [1,0,1]]) (.seq (.reg false [om_ 35 12 [],om_ 36 6
 [],om_ 37 9 [],oo_ 38 (.bin .mul (.t 36) (.t 37)) [1,2],oo_ 39 (.bin .add (.t 35) (.t 38)) [0,3],om_ 12 39 [4,0,1,2,3,4]]) (.seq (.reg false [om_ 40 7 [],om_ 41 9 [],oo_ 42 (.bin .mul (.t 40) (.t 41)) [0,1],om_ 43 13
 [],oo_ 44 (.bin .add (.t 42) (.t 43)) [2,3],om_ 45 12 [],oo_ 46 (.bin .shr (.t 45) (.d (.int .u64 32))) [5],oo_ 47 (.bin .add (.t 44) (.t 46)) [4,6],om_ 4 47 [7,0,1,2,3,4,5,6,7]]) (.seq (.reg false [om_ 48 0 [],om_ 49 1
 [],oo_ 50 (.bin .mul (.t 48) (.t 49)) [0,1],om_ 5 50 [2,0,1,2]]) .ret))))))))))))
theorem o_b4 : fnOf Tryd.prog o_b2 = some (o_b3, [.t 4, .t 5], 51, false) := by kernel_rfl

abbrev o_b5 : FuncId := 85
def o_b6 : C := (.seq (.reg false [oo_ 4 (.mv (.d (.bool false))) []]) (.seq (.reg false [om_ 5 0 [],oo_ 6 (.lens (.t 5)) [0],om_ 7 1 [],oo_ 8 (.lens (.t 7)) [2],oo_ 9 (.bin .geq (.t 6) (.t 8)) [1,3],om_ 10 9 [4],og_ 11 (.mv (.t 0)) 10
 true [5],og_ 12 (.mv (.t 1)) 10 true [5],og_ 13 (.lens (.t 12)) 10 true [7,5],og_ 14 (.sstr (.t 11) none (some (.t 13))) 10 true [6,8,5],og_ 15 (.mv (.t 1)) 10 true [5],og_ 16 (.bin .eql (.t 14) (.t 15)) 10 true
 [9,10,5],oo_ 17 (.pick (.t 10) (.t 16) (.d (.bool false))) [5,11],om_ 4 17 [12,5,0,1,2,3,4,5,6,7,8,9,10,11,12]]) .ret))
theorem o_b7 : fnOf Tryd.prog o_b5 = some (o_b6, [.t 4], 18, false) := by kernel_rfl

abbrev o_b8 : FuncId := 92
def o_b9 : C := (.seq (.reg false [oo_ 2 (.mv (.d (.int .i64 0))) []]) (.seq (.seq (.reg false [om_ 3 0 [],oo_ 4 (.bin .geq (.t 3) (.d (.int .u64 4294967296))) [0]]) (.cond (.t 4) (.seq (.reg false [om_ 5 0 [],oo_ 6 (.bin .shr (.t 5)
 (.d (.int .u64 32))) [0],om_ 0 6 [1,0,1]]) (.reg false [oo_ 2 (.mv (.d (.int .i64 32))) []])) .skip)) (.seq (.seq (.reg false [om_ 7 0 [],oo_ 8 (.bin .geq (.t 7) (.d (.int .u64 65536))) [0]]) (.cond (.t 8) (.seq (.reg
 false [om_ 9 0 [],oo_ 10 (.bin .shr (.t 9) (.d (.int .u64 16))) [0],om_ 0 10 [1,0,1]]) (.reg false [om_ 11 2 [],oo_ 12 (.bin .add (.t 11) (.d (.int .i64 16))) [0],om_ 2 12 [1,0,1]])) .skip)) (.seq (.seq (.reg false [om_
 13 0 [],oo_ 14 (.bin .geq (.t 13) (.d (.int .u64 256))) [0]]) (.cond (.t 14) (.seq (.reg false [om_ 15 0 [],oo_ 16 (.bin .shr (.t 15) (.d (.int .u64 8))) [0],om_ 0 16 [1,0,1]]) (.reg false [om_ 17 2 [],oo_ 18 (.bin .add
 (.t 17) (.d (.int .i64 8))) [0],om_ 2 18 [1,0,1]])) .skip)) (.seq (.reg false [om_ 19 2 [],om_ 20 0 [],oo_ 21 (.conv .u8 (.t 20)) [1],⟨some 22,.gstr (.d (.str
 ⟨#[0,1,2,2,3,3,3,3,4,4,4,4,4,4,4,4,5,5,5,5,5,5,5,5,5,5,5,5,5,5,5,5,6,6,6,6,6,6,6,6,6,6,6,6,6,6,6,6,6,6,6,6,6,6,6,6,6,6,6,6,6,6,6,6,7,7,7,7,7,7,7,7,7,7,7,7,7,7,7,7,7,7,7,7,7,7,7,7,7,7,7,7,7,7,7,7,7,7,7,7,7,7,7,7,7,7,7,7,7,7,7,7,7,7,7,7,7,7,7,7,7,7,7,7,7,7,7,7,8,8,8,8,8,8,8,8,8,8,8,8,8,8,8,8,8,8,8,8,8,8,8,8,8,8,8,8,8,8,8,8,8,8,8,8,8,8,8,8,8,8,8,8,8,8,8,8,8,8,8,8,8,8,8,8,8,8,8,8,8,8,8,8,8,8,8,8,8,8,8,8,8,8,8,8,8,8,8,8,8,8,8,8,8,8,8,8,8,8,8,8,8,8,8,8,8,8,8,8,8,8,8,8,8,8,8,8,8,8,8,8,8,8,8,8,8,8,8,8,8,8,8,8,8,8,8,8]⟩)) (.t 21),none,[2]⟩,oo_ 23 (.conv .i64 (.t 22)) [3],oo_ 24 (.bin .add (.t 19) (.t 23)) [0,4],om_ 2 24 [5,0,1,2,3,4,5]]) .ret)))))
theorem o_ba : fnOf Tryd.prog o_b8 = some (o_b9, [.t 2], 25, false) := by kernel_rfl

abbrev o_bb : FuncId := 93
def o_bc : C := (.seq (.reg false [oo_ 2 (.mv (.d (.int .i64 0))) []]) (.seq (.reg false [om_ 3 0 [],oo_ 4 (.bin .mul (.t 3) (.d (.int .i64 78913))) [0],oo_ 5 (.bin .shr (.t 4) (.d (.int .u64 18))) [1],om_ 2 5 [2,0,1,2]]) .ret))
theorem o_bd : fnOf Tryd.prog o_bb = some (o_bc, [.t 2], 6, false) := by kernel_rfl

abbrev o_be : FuncId := 94
def o_bf : C := (.seq (.reg false [oo_ 2 (.mv (.d (.int .i64 0))) []]) (.seq (.seq (.reg false [om_ 3 0 []]) (.cond (.t 3) (.seq (.reg false [oo_ 2 (.mv (.d (.int .i64 1))) []]) .ret) .skip)) (.seq (.reg false [oo_ 2 (.mv (.d (.int
 .i64 0))) []]) .ret)))
theorem o_bg : fnOf Tryd.prog o_be = some (o_bf, [.t 2], 4, false) := by kernel_rfl

abbrev o_bh : FuncId := 36
theorem o_bi : Tryd.prog.funcs[o_bh]? = some Tryd.f36 := Tryd.func36
abbrev o_bj : FuncId := 66
theorem o_bk : Tryd.prog.funcs[o_bj]? = some Tryd.f66 := Tryd.func66
end
end Go.Proofs.YtlelpbaeplcfiaaDoor.Am
namespace Go.Proofs.YtlelpbaeplcfiaaDoor.Am
section
open Go.RowKit
def W (ws : List Nat) : D := .sl ws.length (ws.map fun x : Nat => .int .u64 x)

def wordsF : Nat → Nat → List Nat
 | 0, _ => []
 | f + 1, n => if n = 0 then [] else (n % 18446744073709551616) :: wordsF f (n / 18446744073709551616)
def words (n : Nat) : List Nat := wordsF n n

theorem o_bl : ∀ (f n : Nat), n ≤ f → wval (wordsF f n) = n ∧ small (wordsF f n) ∧ top1 (wordsF f n)
 | 0, n, h => by
  obtain rfl : n = 0 := by omega
  exact ⟨rfl, by simp [small, wordsF], by intro k hk; simp [wordsF] at hk⟩
 | f + 1, n, h => by
  by_cases h0 : n = 0
  ·subst h0
   simp only [wordsF, if_true]
   exact ⟨rfl, by simp [small], by intro k hk; simp at hk⟩
  ·obtain ⟨h1, h2, h3⟩ := o_bl f (n / 18446744073709551616) (by omega)
   simp only [wordsF, if_neg h0]
   refine ⟨by simp only [wval, h1]; omega, fun x hx => ?_, fun k hk => ?_⟩
   ·rcases List.mem_cons.1 hx with rfl | hx
    ·omega
    ·exact h2 x hx
   ·cases hl : wordsF f (n / 18446744073709551616) with
    | nil =>
     rw [hl] at h1 hk
     simp [wval] at h1 hk
     subst hk
     simp; omega
    | cons y r =>
     rw [hl] at hk h3
     simp at hk
     subst hk
     have := h3 r.length rfl
     simpa using this
theorem o_bm (n : Nat) : wval (words n) = n := (o_bl n n (Nat.le_refl _)).1
theorem o_bn (n : Nat) : small (words n) := (o_bl n n (Nat.le_refl _)).2.1
theorem o_bo (n : Nat) : top1 (words n) := (o_bl n n (Nat.le_refl _)).2.2
theorem o_bp {ws : List Nat} (h : small ws) (ht : top1 ws) : words (wval ws) = ws := o_7 (o_bn _) h (o_bo _) ht (o_bm _)
theorem o_bq {n : Nat} : words n = [] ↔ n = 0 := by
 constructor
 ·intro h; have := o_bm n; rw [h] at this; exact this.symm
 ·rintro rfl; rfl

def natW (n : Nat) : D := W (words n)
theorem o_br {ws : List Nat} (h : small ws) (ht : top1 ws) : natW (wval ws) = W ws := by rw [natW, o_bp h ht]
theorem o_bs : natW 0 = .sl 0 [] := rfl
def size (n : Nat) : Nat := (words n).length

theorem o_bt (n : Nat) (l : List D) (hl : l.length = n) (hn : n ≤ 4000000000) : Eqn Tryd.prog o_8a [.d (.sl n l)] [] (.d (.sl n l)) [] := by
 refine Eqn.pure o_8c (o_5f _) ?_
 simp only [o_8b]
 rcases Nat.eq_zero_or_pos n with rfl | h0
 ·have : l = [] := List.eq_nil_of_length_eq_zero hl
  subst this
  refine AW.empty 0 rfl ?_ ?_
  ·simp
   refine G0 ?_; try with_reducible exact tt
   refine AW.cond rfl (fun h => ?_) (fun h => ?_)
   ·refine G0 ?_; try with_reducible exact tt
    exact Sub1.nil
   ·simp at h
  ·simp
   refine G0 ?_; try with_reducible exact tt
   refine AW.cond rfl (fun h => ?_) (fun h => ?_)
   ·simp at h
   ·refine G0 ?_; try with_reducible exact tt
    exact Sub1.sl0
 ·refine G1 h0 ?_; try with_reducible exact tt
  refine AW.cond rfl (fun h => ?_) (fun h => ?_)
  ·simp at h
  ·refine G0 ?_; try with_reducible exact tt
   have h1 : ¬ n = 0 := by omega
   simp [h1, hl]
   refine need.of (by omega) ?_
   refine AW.freeze 0 1 ⟨34, l.map .d⟩ l (by simp) rfl ?_
   simp
   refine G0 ?_; try with_reducible exact tt
   have : l.take n = l := List.take_of_length_le (by omega)
   simp [this]

theorem o_bu {ws : List Nat} {k : Nat} (h : k < ws.length) : ws[k] = ws.getD k 0 := by simp [List.getD, h]

theorem o_bv (ws : List Nat) (hs : small ws) (hn : ws.length ≤ 4000000000) : Eqn Tryd.prog o_81 [.d (W ws)] [] (.d (.agg [natW (wval ws)])) [] := by
 refine Eqn.pure o_83 (o_5f _) ?_
 simp only [o_82, W]
 refine G0 ?_; try with_reducible exact tt
 refine AW.loopT (α := Nat) 1 (fun m => [(3, .d (.int .i64 (m : Int)))]) (fun _ => []) (fun m => m ≤ ws.length ∧ trimN ws m = trimN ws ws.length) (fun m => m) ws.length ?_ ?_ ⟨Nat.le_refl _, rfl⟩ ?_ ?_ ?_
 ·simp
 ·simp
 ·simp
 ·simp
 rintro m ⟨hm, ht⟩
 simp
 have fin : ∀ k, k = trimN ws ws.length → W (ws.take k) = natW (wval ws) := by
  rintro k rfl
  have := o_br (hs.take (trimN ws ws.length)) (o_5 ws _ (Nat.le_refl _))
  rw [← this, o_4 _ _ (Nat.le_refl _), List.take_length]
 cases m with
 | zero =>
  refine G0 ?_; try with_reducible exact tt
  refine AW.cond rfl (fun h => ?_) (fun h => ?_)
  ·simp at h
  refine G0 ?_; try with_reducible exact tt
  refine Sub1.of ?_
  rw [← fin 0 ht]
  simp [W]
 | succ m =>
  have hm' : m < ws.length := hm
  have hp : (0 : Int) < (m : Int) + 1 := by omega
  have e : (m : Int) + 1 - 1 = m := by omega
  have ew : IntKind.i64.wrap (m : Int) = m := w64 (by omega) (by omega)
  refine G1 (fs hp (fs e (fs ew hm'))) ?_; try with_reducible exact tt
  refine AW.cond rfl (fun h => ?_) (fun h => ?_)
  ·simp at h
   refine G1 (fs hp (fs e ew)) ?_; try with_reducible exact tt
   refine ⟨m, ⟨by omega, ?_⟩, ?_⟩
   ·rw [← ht, trimN, if_pos]
    rw [← o_bu hm']; omega
   ·simp
  ·simp at h
   refine G0 ?_; try with_reducible exact tt
   have hk : m + 1 = trimN ws ws.length := by
    rw [← ht, trimN, if_neg]
    rw [← o_bu hm']; omega
   refine G0 ?_; try with_reducible exact tt
   refine Sub1.of ?_
   rw [← fin _ hk]
   simp [W]
   omega

theorem o_bw (ws : List Nat) (hs : small ws) (hn : ws.length ≤ 4000000000) : Eqn Tryd.prog o_6p [.d (W ws)] [] (.d (.agg [natW (wval ws)])) [] := by
 refine Eqn.pure o_6r (o_5f _) ?_
 simp only [o_6q, W]
 refine G0 ?_; try with_reducible exact tt
 refine CallS.pu (o_bt _ (ws.map fun x : Nat => .int .u64 x) (by simp) hn) (R0 ?_); try with_reducible exact tt
 refine CallS.pu (o_bv ws hs hn) (R0 ?_); try with_reducible exact tt

theorem o_bx (n : Nat) : Eqn Tryd.prog o_7g [.d (.agg [natW n])] [] (.d (.bool (n == 0))) [] := by
 refine Eqn.pure o_7i (o_5f _) ?_
 simp only [o_7h, natW, W]
 refine G0 ?_; try with_reducible exact tt
 refine Sub1.bool ?_
 rw [Bool.eq_iff_iff]
 simp [o_bq]

theorem o_by {m n : Nat} (h : size m < size n) : m < n := by
 have := o_t (o_bn m) (o_bo n) h
 rwa [o_bm, o_bm] at this

theorem o_bz (m n : Nat) (hm : size m ≤ 1000000) (hn : size n ≤ 1000000) : Eqn Tryd.prog o_6j [.d (.agg [natW m]), .d (.agg [natW n])] [] (.d (.int .i64 (cmpZ m n))) [] := by
 refine Eqn.pure o_6l (o_5f _) ?_
 unfold size at hm hn
 have sa := o_bn m
 have sb := o_bn n
 simp only [o_6k, natW, W]
 have hz : cmpZ m n = if (words m).length < (words n).length then -1 else if (words n).length < (words m).length then 1 else cmpN (words m) (words n) (words m).length := by
  split
  ·rename_i h; rw [cmpZ, if_pos (o_by h)]
  ·split
   ·rename_i h; have := o_by h; rw [cmpZ, if_neg (by omega), if_pos this]
   ·have := o_v sa sb (words m).length
    rw [List.take_length, show (words m).length = (words n).length by omega, List.take_length, o_bm, o_bm] at this
    rw [show (words m).length = (words n).length by omega, this]
    rfl
 rw [hz]
 clear hz
 generalize words m = xs at *
 generalize words n = ys at *
 by_cases hl : xs.length = ys.length
 ·refine G1 hl ?_; try with_reducible exact tt
  refine AW.cond rfl (fun h => ?_) (fun h => ?_)
  ·simp [w64] at h
  refine G1 hl ?_; try with_reducible exact tt
  refine AW.loopT (α := Nat) 2 (fun m => [(6, .d (.int .i64 ((m : Int) - 1)))]) (fun _ => []) (fun m => m ≤ ys.length ∧ cmpN xs ys m = cmpN xs ys ys.length) (fun m => m) ys.length ?_ ?_ ⟨Nat.le_refl _, rfl⟩ ?_ ?_ ?_
  ·simp
  ·simp
  ·simp [hl]
  ·simp
  rintro m ⟨hm', hc⟩
  simp
  cases m with
  | zero =>
   refine G0 ?_; try with_reducible exact tt
   refine AW.cond rfl (fun h => ?_) (fun h => ?_)
   ·simp at h
   refine G0 ?_; try with_reducible exact tt
   refine Sub1.int ?_
   rw [← hc]; rfl
  | succ m =>
   have h1 : m < xs.length := by omega
   have h2 : m < ys.length := hm'
   have e : (m : Int) + 1 - 1 = m := by omega
   have ew : IntKind.i64.wrap ((m : Int) - 1) = (m : Int) - 1 := w64 (by omega) (by omega)
   rw [cmpN, ← o_bu h1, ← o_bu h2] at hc
   refine G1 (fs e (fs h1 h2)) ?_; try with_reducible exact tt
   refine AW.cond rfl (fun h => ?_) (fun h => ?_)
   ·refine G1 (fs e (fs h1 h2)) ?_; try with_reducible exact tt
    refine AW.cond rfl (fun h => ?_) (fun h => ?_)
    ·simp at h
     refine G0 ?_; try with_reducible exact tt
     refine Sub1.int ?_
     rw [if_pos h] at hc
     exact hc
    ·simp at h
     rw [if_neg (by omega)] at hc
     refine G0 ?_; try with_reducible exact tt
     refine AW.cond rfl (fun h => ?_) (fun h => ?_)
     ·simp at h
      refine G0 ?_; try with_reducible exact tt
      refine Sub1.int ?_
      rw [if_pos h] at hc
      exact hc
     ·simp at h
      rw [if_neg (by omega)] at hc
      refine G1 ew ?_; try with_reducible exact tt
      exact ⟨m, ⟨by omega, hc⟩, by simp⟩
   ·simp at h
 ·refine G0 ?_; try with_reducible exact tt
  refine AW.cond rfl (fun h => ?_) (fun h => ?_)
  ·refine G0 ?_; try with_reducible exact tt
   refine Sub1.int ?_
   split <;> omega
  ·simp at h
   omega
end
end Go.Proofs.YtlelpbaeplcfiaaDoor.Am
namespace Go.Proofs.YtlelpbaeplcfiaaDoor.Am
section
open Go.RowKit
abbrev U (ws : List Nat) : List V := ws.map fun x : Nat => V.d (.int .u64 x)

theorem o_c0 (x y c s d : Nat) (hx : x < 18446744073709551616) (hy : y < 18446744073709551616) (hc : c ≤ 1) (hs : s < 18446744073709551616) (e : x + y + c = s + 18446744073709551616 * d) : Eqn Tryd.prog o_bh [.d (.int .u64 x), .d (.int .u64 y), .d (.int .u64 c)] [] (.tup [.d (.int .u64 s), .d (.int .u64 d)]) [] := by
 refine Eqn.extern o_bi (by kernel_rfl) (by kernel_rfl) (by kernel_rfl) (e := add64Entry) (by kernel_rfl) rfl fun m vs h => ?_
 obtain ⟨v1, r1, rfl, h1, h⟩ := V.reps_cons'.1 h
 obtain ⟨v2, r2, rfl, h2, h⟩ := V.reps_cons'.1 h
 obtain ⟨v3, r3, rfl, h3, h⟩ := V.reps_cons'.1 h
 simp at h; subst h
 rw [V.rep_int] at h1 h2 h3
 subst h1 h2 h3
 have := run_add64 (P := Tryd.prog) x y c (by omega) (by omega) (by omega) (by omega) m.w
 refine ⟨_, this, ?_⟩
 unfold V.rep
 refine ⟨[.int .u64 (((x : Int) + y + c) % 18446744073709551616), .int .u64 (((x : Int) + y + c) / 18446744073709551616)], rfl, ?_⟩
 simp only [V.reps_cons, V.rep_int, V.reps_nil, and_true]
 constructor <;> congr 1 <;> omega

theorem o_c1 (x y c s d : Nat) (hx : x < 18446744073709551616) (hy : y < 18446744073709551616) (hc : c ≤ 1) (hs : s < 18446744073709551616) (e : x + 18446744073709551616 * d = s + y + c) : Eqn Tryd.prog o_bj [.d (.int .u64 x), .d (.int .u64 y), .d (.int .u64 c)] [] (.tup [.d (.int .u64 s), .d (.int .u64 d)]) [] := by
 refine Eqn.extern o_bk (by kernel_rfl) (by kernel_rfl) (by kernel_rfl) (e := sub64Entry) (by kernel_rfl) rfl fun m vs h => ?_
 obtain ⟨v1, r1, rfl, h1, h⟩ := V.reps_cons'.1 h
 obtain ⟨v2, r2, rfl, h2, h⟩ := V.reps_cons'.1 h
 obtain ⟨v3, r3, rfl, h3, h⟩ := V.reps_cons'.1 h
 simp at h; subst h
 rw [V.rep_int] at h1 h2 h3
 subst h1 h2 h3
 have := run_sub64 (P := Tryd.prog) x y c hc m.w
 refine ⟨_, this, ?_⟩
 unfold V.rep
 refine ⟨[.int .u64 s, .int .u64 d], ?_, by simp only [V.reps_cons, V.rep_int, V.reps_nil, and_true]⟩
 congr 4
 ·omega
 ·congr 2
  split <;> omega

theorem o_c2 (a b : List Nat) (i : Nat) : a.getD i 0 + b.getD i 0 + carryW a b i = addW a b i + 18446744073709551616 * carryW a b (i + 1) := by
 rw [addW, carryW]; exact (Nat.mod_add_div _ _).symm
theorem o_c3 {ws : List Nat} {k : Nat} (h : ¬ k < ws.length) : ws.getD k 0 = 0 := by simp [List.getD, show ws.length ≤ k by omega]
theorem o_c4 (l : List D) : (V.tup (l.map .d)).plain := by
 have h1 : V.lowl 0 (l.map V.d) = true := by induction l <;> simp_all [V.lowl, V.low]
 have h2 : ∀ θ, V.rens θ (l.map V.d) = l.map V.d := fun θ => by induction l <;> simp_all [V.rens, V.ren]
 exact ⟨by simp [V.low, h1], fun θ => by simp [V.ren, h2]⟩

def rowV (f : Nat → D) (n i : Nat) : List V := (List.range i).map (fun k => V.d (f k)) ++ List.replicate (n - i) (.d (.int .u64 0))
@[simp] theorem o_c5 (f : Nat → D) (n i : Nat) : (rowV f n i).length = i + (n - i) := by simp [rowV]
theorem out0 (n : Nat) (f : Nat → D) : List.replicate n (V.d (.int .u64 0)) = rowV f n 0 := by simp [rowV]
theorem o_c6 {f : Nat → D} {n i : Nat} (h : i < n) : (rowV f n i).set i (.d (f i)) = rowV f n (i + 1) := by
 obtain ⟨k, rfl⟩ : ∃ k, n = i + k + 1 := ⟨n - i - 1, by omega⟩
 rw [rowV, rowV, List.set_append_right _ _ (by simp), List.range_succ, List.map_append, List.append_assoc]
 congr 1
 simp only [List.length_map, List.length_range, Nat.sub_self]
 rw [show i + k + 1 - i = k + 1 by omega, show i + k + 1 - (i + 1) = k by omega]
 simp [List.replicate_succ]
@[simp] theorem o_c7 (n : Nat) (f : Nat → D) (k i : Nat) : V.lowl n (rowV f k i) = true := by
 have h1 : ∀ l : List D, V.lowl n (l.map V.d) = true := fun l => by induction l <;> simp_all [V.lowl, V.low]
 have : rowV f k i = ((List.range i).map f ++ List.replicate (k - i) (D.int .u64 0)).map .d := by simp [rowV]
 rw [this, h1]
@[simp] theorem o_c8 (l : List V) : Subs l l ↔ True := iff_true_intro (Subs.refl l)
theorem o_c9 {f : Nat → D} {n : Nat} {z : D} : (rowV f (n + 1) n).set n (.d z) = ((List.range n).map f ++ [z]).map .d := by
 rw [rowV, List.set_append_right _ _ (by simp)]
 simp
theorem o_ca {f : Nat → D} {n : Nat} : rowV f n n = ((List.range n).map f).map .d := by simp [rowV]

theorem o_cb (a b : D) : (V.tup [.d a, .d b]).plain := o_c4 [a, b]
theorem o_cc (a b c : D) : (V.tup [.d a, .d b, .d c]).plain := o_c4 [a, b, c]

theorem o_cd (m n : Nat) (hm : size m ≤ 1000000) (hn : size n ≤ 1000000) : Eqn Tryd.prog o_6v [.d (.agg [natW m]), .d (.agg [natW n])] [] (.d (.agg [natW (m + n)])) [] := by
 refine Eqn.pure o_6x (o_5f _) ?_
 -- the longer one, the other one
 obtain ⟨A, B, hAB, hsA, hsB, hle, hsum, hca, hcb⟩ : ∃ A B : List Nat, (A, B) = (if (words m).length < (words n).length then (words n, words m) else (words m, words n)) ∧ small A ∧ small B ∧ B.length ≤ A.length ∧ wval A + wval B = m + n ∧ A.length ≤ 1000000 ∧ B.length ≤ 1000000 := by
  unfold size at hm hn
  by_cases h : (words m).length < (words n).length
  ·exact ⟨words n, words m, by rw [if_pos h], o_bn _, o_bn _, by omega, by rw [o_bm, o_bm]; omega, by omega, by omega⟩
  ·exact ⟨words m, words n, by rw [if_neg h], o_bn _, o_bn _, by omega, by rw [o_bm, o_bm], by omega, by omega⟩
 simp only [o_6w, natW, W]
 generalize words m = xs at *
 generalize words n = ys at *
 unfold size at hm hn
 refine AW.seq (AW.reg mix ?_)
 (simp -implicitDefEqProofs; try simp (disch := omega) only [w64, wu64])
 refine AW.cut 3 [] [(0, ⟨t_nat_Nat, [.d (W A)]⟩), (1, ⟨t_nat_Nat, [.d (W B)]⟩)] ?_ ?_ ?_ ?_
 ·simp
 ·simp
 ·refine G0 ?_; try with_reducible exact tt
  refine AW.cond rfl (fun h => ?_) (fun h => ?_)
  ·simp at h
   rw [if_pos h] at hAB
   cases hAB
   refine G0 ?_; try with_reducible exact tt
   simp [W]
  ·simp at h
   rw [if_neg (by omega)] at hAB
   cases hAB
   refine G0 ?_; try with_reducible exact tt
   simp [W]
 clear hAB hm hn
 simp [W]
 refine G0 ?_; try with_reducible exact tt

 rw [out0 _ (fun k => .int .u64 (addW A B k : Nat))]
 refine G0 ?_; try with_reducible exact tt
 refine AW.loopT (α := Nat) 4 (fun i => [(27, .d (.int .i64 (i : Int))), (6, .d (.int .u64 (carryW A B i : Nat)))]) (fun i => [(3, ⟨34, rowV (fun k => .int .u64 (addW A B k : Nat)) (A.length + 1) i⟩)]) (fun i => i ≤ A.length) (fun i => A.length - i) 0 ?_ ?_ (Nat.zero_le _) ?_ ?_ ?_
 ·simp
 ·simp
 ·simp [carryW]
 ·simp
 rintro i hi
 simp
 by_cases h : i = A.length
 ·subst h
  refine G0 ?_; try with_reducible exact tt
  refine AW.cond rfl (fun h => ?_) (fun h => ?_)
  ·simp at h
  refine AW.exit ?_
  (try (simp -implicitDefEqProofs; try simp (disch := omega) only [w64, wu64]))
  repeat (first | refine AW.seq ?_ | refine AW.block ?_)
  refine AW.reg mix ?_
  (simp -implicitDefEqProofs; try simp (disch := omega) only [w64, wu64])
  try refine need.of (by first | omega | kernel_rfl) ?_
  obtain ⟨ws, hl, hr, hv, hs⟩ : ∃ ws : List Nat, ws.length = A.length + 1 ∧ (rowV (fun k => .int .u64 (addW A B k : Nat)) (A.length + 1) A.length).set A.length (.d (.int .u64 (carryW A B A.length : Nat))) = U ws ∧ wval ws = m + n ∧ small ws := by
   refine ⟨(List.range A.length).map (addW A B) ++ [carryW A B A.length], by simp, by rw [o_c9]; simp [U], ?_, ?_⟩
   ·rw [o_0, ← hsum]
    have := o_n A B A.length
    rw [List.take_length, List.take_of_length_le hle] at this
    simp [wval]
    rw [← this]
   ·intro x hx
    rcases List.mem_append.1 hx with hx | hx
    ·obtain ⟨k, -, rfl⟩ := List.mem_map.1 hx; exact o_r _ _ _
    ·simp at hx; subst hx; have := o_m hsA hsB A.length; omega
  rw [hr]
  refine AW.freeze 3 1 ⟨34, _⟩ (ws.map fun x : Nat => .int .u64 x) (by rfl) (by simp) ?_
  simp [← hl, List.take_of_length_le]
  refine G0 ?_; try with_reducible exact tt
  refine CallS.pu (o_bv ws hs (by omega)) (R0 ?_); try with_reducible exact tt
  refine Sub1.of ?_
  rw [hv]; rfl
 ·have hi' : i < A.length := by omega
  have hp : (i : Int) < A.length := by omega
  have hc := o_m hsA hsB i
  have hset := o_c6 (f := fun k => .int .u64 (addW A B k : Nat)) (n := A.length + 1) (i := i) (by omega)
  have ew : IntKind.i64.wrap ((i : Int) + 1) = (i : Int) + 1 := w64 (by omega) (by omega)
  refine G1 (fs hi' hp) ?_; try with_reducible exact tt
  refine AW.cond rfl (fun h => ?_) (fun h => ?_)
  ·clear h
   by_cases hb : i < B.length
   ·have e : A[i] + B[i] + carryW A B i = addW A B i + 18446744073709551616 * carryW A B (i + 1) := by
     rw [← o_c2, o_bu hi', o_bu hb]
    refine G1 (fs hi' (fs hp hb)) ?_; try with_reducible exact tt
    refine AW.cond rfl (fun h => ?_) (fun h => ?_)
    ·clear h
     refine G1 (fs hi' (fs hp hb)) ?_; try with_reducible exact tt
     refine CallS.pu (o_c0 _ _ _ (addW A B i) (carryW A B (i + 1)) (hsA _ (List.getElem_mem _)) (hsB _ (List.getElem_mem _)) hc (o_r _ _ _) e) (R1 (fs hset ew) ?_); try with_reducible exact tt
     exact ⟨i + 1, by omega, by omega, by simp [wk, ew], by simp [wkH]⟩
    ·simp [hb] at h
   ·have e : A[i] + 0 + carryW A B i = addW A B i + 18446744073709551616 * carryW A B (i + 1) := by
     rw [← o_c2, o_bu hi', o_c3 hb]
    refine G1 (fs hi' (fs hp hb)) ?_; try with_reducible exact tt
    refine AW.cond rfl (fun h => ?_) (fun h => ?_)
    ·simp [hb] at h
    ·clear h
     refine G1 (fs hi' (fs hp hb)) ?_; try with_reducible exact tt
     refine CallS.pu (o_c0 _ 0 _ (addW A B i) (carryW A B (i + 1)) (hsA _ (List.getElem_mem _)) (by omega) hc (o_r _ _ _) e) (R1 (fs hset ew) ?_); try with_reducible exact tt
     exact ⟨i + 1, by omega, by omega, by simp [wk, ew], by simp [wkH]⟩
  ·simp at h
end
end Go.Proofs.YtlelpbaeplcfiaaDoor.Am
namespace Go.Proofs.YtlelpbaeplcfiaaDoor.Am
section
open Go.RowKit
theorem o_ce {a b : List Nat} (ha : small a) (hb : small b) (i : Nat) : a.getD i 0 + 18446744073709551616 * borrowW a b (i + 1) = subW a b i + b.getD i 0 + borrowW a b i := by
 have h1 := ha.getD i
 have h2 := hb.getD i
 have h3 := o_o a b i
 simp only [subW, borrowW]
 split <;> omega
theorem o_cf {a b : List Nat} (ha : small a) (hb : small b) (hl : b.length ≤ a.length) (h : wval b ≤ wval a) : wval ((List.range a.length).map (subW a b)) = wval a - wval b := by
 have h1 := o_p ha hb a.length
 rw [List.take_length, List.take_of_length_le hl] at h1
 have h2 := o_o a b a.length
 have h3 := o_2 (o_q (o_s a b) a.length)
 rw [List.length_map, List.length_range] at h3
 have : borrowW a b a.length = 0 ∨ borrowW a b a.length = 1 := by omega
 rcases this with e | e
 ·rw [e] at h1; omega
 ·rw [e] at h1; omega
theorem o_cg {m n : Nat} (h : m ≤ n) : size m ≤ size n := by
 apply Nat.le_of_not_lt
 intro hlt
 have := o_by hlt
 omega

theorem o_ch (m n : Nat) (hm : size m ≤ 1000000) (hle : n ≤ m) : Eqn Tryd.prog o_8m [.d (.agg [natW m]), .d (.agg [natW n])] [] (.tup [.d (.agg [natW (m - n)]), .d (.int .i64 0)]) [] := by
 refine Eqn.pure o_8o (o_cb _ _) ?_
 have hs := o_cg hle
 simp only [o_8n]
 refine G0 ?_; try with_reducible exact tt
 refine CallS.pu (o_bz m n hm (by omega)) (R0 ?_); try with_reducible exact tt
 have hc : ¬ cmpZ m n < 0 := by unfold cmpZ; split <;> (try split) <;> omega
 refine AW.cond rfl (fun h => ?_) (fun h => ?_)
 ·simp [hc] at h
 clear h
 refine G0 ?_; try with_reducible exact tt
 unfold size at hm hs
 obtain ⟨A, hA⟩ : ∃ A, A = words m := ⟨_, rfl⟩
 obtain ⟨B, hB⟩ : ∃ B, B = words n := ⟨_, rfl⟩
 have hsA : small A := hA ▸ o_bn m
 have hsB : small B := hB ▸ o_bn n
 have hvA : wval A = m := by rw [hA, o_bm]
 have hvB : wval B = n := by rw [hB, o_bm]
 rw [show natW m = .sl A.length (A.map fun x : Nat => .int .u64 x) by rw [hA]; rfl, show natW n = .sl B.length (B.map fun x : Nat => .int .u64 x) by rw [hB]; rfl]
 rw [← hA, ← hB] at hs
 rw [← hA] at hm
 clear hA hB
 refine G0 ?_; try with_reducible exact tt
 rw [out0 _ (fun k => .int .u64 (subW A B k : Nat))]
 refine AW.loopT (α := Nat) 4 (fun i => [(23, .d (.int .i64 (i : Int))), (7, .d (.int .u64 (borrowW A B i : Nat)))]) (fun i => [(3, ⟨34, rowV (fun k => .int .u64 (subW A B k : Nat)) A.length i⟩)]) (fun i => i ≤ A.length) (fun i => A.length - i) 0 ?_ ?_ (Nat.zero_le _) ?_ ?_ ?_
 ·simp
 ·simp
 ·simp [borrowW]
 ·simp
 rintro i hi
 simp
 by_cases h : i = A.length
 ·subst h
  refine G0 ?_; try with_reducible exact tt
  refine AW.cond rfl (fun h => ?_) (fun h => ?_)
  ·simp at h
  refine AW.exit ?_
  (try (simp -implicitDefEqProofs; try simp (disch := omega) only [w64, wu64]))
  obtain ⟨ws, hl, hr, hv, hs'⟩ : ∃ ws : List Nat, ws.length = A.length ∧ rowV (fun k => .int .u64 (subW A B k : Nat)) A.length A.length = U ws ∧ wval ws = m - n ∧ small ws := by
   refine ⟨(List.range A.length).map (subW A B), by simp, by rw [o_ca]; simp [U], ?_, o_q (o_s A B) _⟩
   rw [← hvA, ← hvB]
   exact o_cf hsA hsB hs (by omega)
  rw [hr]
  refine AW.freeze 3 1 ⟨34, _⟩ (ws.map fun x : Nat => .int .u64 x) (by rfl) (by simp) ?_
  simp [← hl, List.take_of_length_le]
  refine G0 ?_; try with_reducible exact tt
  refine CallS.pu (o_bv ws hs' (by omega)) (R0 ?_); try with_reducible exact tt
  refine Sub1.of ?_
  rw [hv]
 ·have hi' : i < A.length := by omega
  have hp : (i : Int) < A.length := by omega
  have hc := o_o A B i
  have hset := o_c6 (f := fun k => .int .u64 (subW A B k : Nat)) (n := A.length) (i := i) (by omega)
  have ew : IntKind.i64.wrap ((i : Int) + 1) = (i : Int) + 1 := w64 (by omega) (by omega)
  have e := o_ce hsA hsB i
  refine G1 (fs hi' hp) ?_; try with_reducible exact tt
  refine AW.cond rfl (fun h => ?_) (fun h => ?_)
  ·clear h
   by_cases hb : i < B.length
   ·rw [← o_bu hi', ← o_bu hb] at e
    refine G1 (fs hi' (fs hp hb)) ?_; try with_reducible exact tt
    refine AW.cond rfl (fun h => ?_) (fun h => ?_)
    ·clear h
     refine G1 (fs hi' (fs hp hb)) ?_; try with_reducible exact tt
     refine CallS.pu (o_c1 _ _ _ (subW A B i) (borrowW A B (i + 1)) (hsA _ (List.getElem_mem _)) (hsB _ (List.getElem_mem _)) hc (o_s _ _ _) e) (R1 (fs hset ew) ?_); try with_reducible exact tt
     exact ⟨i + 1, by omega, by omega, by simp [wk, ew], by simp [wkH]⟩
    ·simp [hb] at h
   ·rw [← o_bu hi', o_c3 hb] at e
    refine G1 (fs hi' (fs hp hb)) ?_; try with_reducible exact tt
    refine AW.cond rfl (fun h => ?_) (fun h => ?_)
    ·simp [hb] at h
    ·clear h
     refine G1 (fs hi' (fs hp hb)) ?_; try with_reducible exact tt
     refine CallS.pu (o_c1 _ 0 _ (subW A B i) (borrowW A B (i + 1)) (hsA _ (List.getElem_mem _)) (by omega) hc (o_s _ _ _) e) (R1 (fs hset ew) ?_); try with_reducible exact tt
     exact ⟨i + 1, by omega, by omega, by simp [wk, ew], by simp [wkH]⟩
  ·simp at h
end
end Go.Proofs.YtlelpbaeplcfiaaDoor.Am
namespace Go.Proofs.YtlelpbaeplcfiaaDoor.Am
section
open Go.RowKit
def rowM (k : Nat) (A : List Nat) (i : Nat) : List Nat := movedL k 0 (A.take i) ++ List.replicate (A.length - i) 0
theorem o_ci (k : Nat) (A : List Nat) (i : Nat) (h : i ≤ A.length) : (rowM k A i).length = A.length + 1 := by
 rw [rowM, List.length_append, o_8, List.length_take, List.length_replicate]; omega
theorem o_cj (k : Nat) (A : List Nat) : rowM k A 0 = List.replicate (A.length + 1) 0 := by simp [rowM, movedL, List.replicate_succ]
theorem o_ck (k : Nat) (A : List Nat) : rowM k A A.length = movedL k 0 A := by simp [rowM]
theorem o_cl (k : Nat) (A : List Nat) (i : Nat) (h : i < A.length) : (rowM k A i).getD i 0 = movedC k 0 (A.take i) := by
 have e : i = (movedB k 0 (A.take i)).length := by rw [o_c, List.length_take]; omega
 rw [rowM, o_b, List.append_assoc, List.getD, List.getElem?_append_right (by omega), show i - (movedB k 0 (A.take i)).length = 0 by omega]
 rfl
theorem o_cm (k : Nat) (A : List Nat) (i : Nat) (h : i < A.length) : ((rowM k A i).set i (A.getD i 0 * 2 ^ k % 18446744073709551616 + movedC k 0 (A.take i))).set (i + 1) (A.getD i 0 * 2 ^ k / 18446744073709551616) = rowM k A (i + 1) := by
 have e : (movedB k 0 (A.take i)).length = i := by rw [o_c, List.length_take]; omega
 obtain ⟨r, hr⟩ : ∃ r, A.length = i + r + 1 := ⟨A.length - i - 1, by omega⟩
 rw [rowM, rowM, o_b, o_b, o_3 _ _ h, o_d, o_e, hr, show i + r + 1 - i = r + 1 by omega, show i + r + 1 - (i + 1) = r by omega, List.replicate_succ]
 simp only [List.append_assoc, List.cons_append, List.nil_append]
 rw [List.set_append_right _ _ (by omega), List.set_append_right _ _ (by omega), e]
 simp

def cellM (k : Nat) (A : List Nat) (i : Nat) : List V := U (rowM k A i)
@[simp] theorem o_cn (n : Nat) (l : List Nat) : V.lowl n (U l) = true := by induction l <;> simp_all [U, V.lowl, V.low]

set_option maxHeartbeats 1000000 in
theorem o_co (A : List Nat) (k : Nat) (hk : k < 64) (hs : small A) (hn : A.length ≤ 1000000) : Eqn Tryd.prog o_8d [.d (W A), .d (.int .i64 k)] [] (.d (W (movedL k 0 A))) [] := by
 refine Eqn.pure o_8f (o_5f _) ?_
 simp only [o_8e, W]
 refine G0 ?_; try with_reducible exact tt
 rw [show List.replicate (A.length + 1) (V.d (.int .u64 0)) = cellM k A 0 by rw [cellM, o_cj]; simp [U]]
 have hlow : ∀ i, V.lowl 1 (cellM k A i) = true := fun i => o_cn 1 _
 refine AW.loopT (α := Nat) 1 (fun i => [(14, .d (.int .i64 (i : Int)))]) (fun i => [(0, ⟨34, cellM k A i⟩)]) (fun i => i ≤ A.length) (fun i => A.length - i) 0 ?_ ?_ (Nat.zero_le _) ?_ ?_ ?_
 ·simp
 ·simp
 ·simp
 ·simp [hlow]
 rintro i hi
 simp
 by_cases h : i = A.length
 ·subst h
  refine G0 ?_; try with_reducible exact tt
  refine AW.cond rfl (fun h => ?_) (fun h => ?_)
  ·simp at h
  refine AW.exit ?_
  (try (simp -implicitDefEqProofs; try simp (disch := omega) only [w64, wu64]))
  have hl : (movedL k 0 A).length = A.length + 1 := o_8 _ _ _
  rw [cellM, o_ck]
  generalize movedL k 0 A = ws at hl
  refine AW.freeze 0 1 ⟨34, _⟩ (ws.map fun x : Nat => .int .u64 x) (by rfl) (by simp) ?_
  simp [← hl, List.take_of_length_le]
  refine G0 ?_; try with_reducible exact tt
 ·have hi' : i < A.length := by omega
  have hp : (i : Int) < A.length := by omega
  obtain ⟨c, y, u, hl, hq, hor, hw, hd, hset⟩ : ∃ c z u : Nat, (cellM k A i).length = A.length + 1 ∧ (cellM k A i)[i]? = some (.d (.int .u64 c)) ∧ bits BinOp.or IntKind.u64 (c : Int) (IntKind.u64.wrap ((A[i] : Int) * 2 ^ k)) = (z : Int) ∧
    True ∧ (A[i] : Int) / 2 ^ (64 - k) = (u : Int) ∧ ((cellM k A i).set i (.d (.int .u64 z))).set (i + 1) (.d (.int .u64 u)) = cellM k A (i + 1) := by
   have hl := o_ci k A i hi
   have hc := o_g (k := k) (l := A.take i) (c := 0) (hs.take i) (Nat.two_pow_pos k)
   have hset := o_cm k A i hi'
   rw [← o_bu hi'] at hset
   refine ⟨movedC k 0 (A.take i), A[i] * 2 ^ k % 18446744073709551616 + movedC k 0 (A.take i), A[i] * 2 ^ k / 18446744073709551616, by simp [cellM, U, hl], ?_, ?_, trivial, ?_, ?_⟩
   ·have := o_cl k A i hi'
    rw [List.getD, List.getElem?_eq_getElem (by omega)] at this
    rw [cellM, U, List.getElem?_map, List.getElem?_eq_getElem (by omega)]
    simp at this
    simp [this]
   ·rw [show IntKind.u64.wrap ((A[i] : Int) * 2 ^ k) = ((A[i] * 2 ^ k % 18446744073709551616 : Nat) : Int) by rw [IntKind.wrap_u64, Int.natCast_emod, Int.natCast_mul, Int.natCast_pow]; rfl]
    rw [bits_or_u64_nat _ _ (Nat.lt_of_lt_of_le hc (by rw [show (18446744073709551616 : Nat) = 2 ^ 64 by rfl]; exact Nat.pow_le_pow_right (by decide) (by omega))) (Nat.mod_lt _ (by decide)), o_h hk hc]
   ·rw [o_i (by omega), Int.natCast_ediv, Int.natCast_pow]; rfl
   ·rw [cellM, cellM, ← hset, U, U, List.map_set, List.map_set]
  have hn : ((64 : Int) - k).toNat = 64 - k := by omega
  have e1 : IntKind.i64.wrap ((i : Int) + 1) = (i : Int) + 1 := w64 (by omega) (by omega)
  have e2 : IntKind.i64.wrap ((64 : Int) - k) = (64 : Int) - k := w64 (by omega) (by omega)
  generalize cellM k A i = cm at hl hq hset
  refine G1 (fs hi' hp) ?_; try with_reducible exact tt
  refine AW.cond rfl (fun h => ?_) (fun h => ?_)
  ·clear h
   refine G1 (fs hi' (fs hp (fs hl (fs hq (fs hor (fs e1 (fs e2 (fs hn (fs hd hset))))))))) ?_; try with_reducible exact tt
   exact ⟨i + 1, by omega, by omega, by simp [wk], by simp [wkH, hlow]⟩
  ·simp at h
end
end Go.Proofs.YtlelpbaeplcfiaaDoor.Am
namespace Go.Proofs.YtlelpbaeplcfiaaDoor.Am
section
open Go.RowKit
theorem o_cp (n : Nat) : (words n).length = size n := rfl

set_option maxHeartbeats 1000000 in
theorem o_cq (a n : Nat) (ha : size a ≤ 1000000) (hn : n ≤ 8192) : Eqn Tryd.prog o_6s [.d (.agg [natW a]), .d (.int .i64 n)] [] (.tup [.d (.agg [natW (a * 2 ^ n)]), .d (.int .i64 0)]) [] := by
 refine Eqn.pure o_6u (o_cb _ _) ?_
 simp only [o_6t, natW, W]
 have h1 : ¬ (n : Int) < 0 := by omega
 have h2 : ¬ (8192 : Int) < n := by omega
 refine G1 (fs h1 h2) ?_; try with_reducible exact tt
 refine AW.cond rfl (fun h => ?_) (fun h => ?_)
 ·simp [h1, h2] at h
 have hq : (n : Int) / 64 = (n / 64 : Nat) := rfl
 have hr : (n : Int).tmod 64 = (n % 64 : Nat) := by rw [Int.tmod_eq_emod_of_nonneg (by omega)]; rfl
 have hd : n / 64 ≤ 128 := by omega
 have hm : n % 64 < 64 := by omega
 have hv : ∀ l : List Nat, wval l = a → wval (List.replicate (n / 64) 0 ++ movedL (n % 64) 0 l) = a * 2 ^ n := by
  intro l hl
  rw [o_0, o_1, o_9, List.length_replicate, hl, Nat.zero_add, Nat.add_zero]
  rw [show (18446744073709551616 : Nat) = 2 ^ 64 by rfl, ← Nat.pow_mul, Nat.mul_left_comm, ← Nat.pow_add, Nat.div_add_mod]
 replace hv := hv (words a) (o_bm a)
 have hsm : small (List.replicate (n / 64) 0 ++ movedL (n % 64) 0 (words a)) := by
  intro x hx
  rcases List.mem_append.1 hx with hx | hx
  ·rw [List.eq_of_mem_replicate hx]; omega
  ·exact o_a hm (o_bn a) (Nat.two_pow_pos _) x hx
 have hl := o_8 (n % 64) (words a) 0
 generalize n / 64 = q at *
 generalize n % 64 = r at *
 unfold size at ha
 refine G1 (fs hq hr) ?_; try with_reducible exact tt
 refine CallS.pu (o_co (words a) r hm (o_bn a) (by omega)) ?_
 (try (simp -implicitDefEqProofs [W, hl]; try simp (disch := omega) only [w64, wu64]))
 repeat (first | refine AW.seq ?_ | refine AW.block ?_ | (refine AW.reg mix ?_; simp -implicitDefEqProofs [W, hl]; try simp (disch := omega) only [w64, wu64]) | (refine need.of (by first | omega | kernel_rfl) ?_) | (refine AW.fin ?_; try simp -implicitDefEqProofs [W, hl]))
 have hlen : (List.replicate q 0 ++ movedL r 0 (words a)).length = q + ((words a).length + 1) := by simp [hl]
 have hcell : List.replicate q (V.d (.int .u64 0)) ++ List.map (V.d ∘ fun x : Nat => D.int .u64 x) (movedL r 0 (words a)) = ((List.replicate q 0 ++ movedL r 0 (words a)).map fun x : Nat => D.int .u64 x).map V.d := by simp
 rw [hcell]
 generalize List.replicate q 0 ++ movedL r 0 (words a) = ws at *
 have hlen2 : q + ((words a).length + 1) = ws.length := hlen.symm
 refine CallS.pf 3 1 ⟨34, _⟩ (ws.map fun x : Nat => .int .u64 x) (o_bv ws hsm (by omega)) (by first | rfl | (simp [natW, W, hlen2, List.take_of_length_le]; done)) ?_
 (try (simp -implicitDefEqProofs [natW, W, hlen2, List.take_of_length_le]; try simp (disch := omega) only [w64, wu64]))
 repeat (first | refine AW.seq ?_ | refine AW.block ?_ | (refine AW.reg mix ?_; simp -implicitDefEqProofs [natW, W, hlen2, List.take_of_length_le]; try simp (disch := omega) only [w64, wu64]) | (refine need.of (by first | omega | kernel_rfl) ?_) | (refine AW.fin ?_; try simp -implicitDefEqProofs [natW, W, hlen2, List.take_of_length_le]))
 refine Sub1.of ?_
 rw [hv]
end
end Go.Proofs.YtlelpbaeplcfiaaDoor.Am
namespace Go.Proofs.YtlelpbaeplcfiaaDoor.Am
section
open Go.RowKit
theorem o_cr {x : Nat} (h0 : 0 < x) (h : x < 18446744073709551616) : words x = [x] := by
 have := o_bp (ws := [x]) (by intro y hy; simp at hy; omega) (by intro k hk; simp at hk; subst hk; simp; omega)
 simpa [wval] using this
theorem o_cs {x : Nat} (h : x < 18446744073709551616) : small [x] := by intro y hy; simp at hy; omega

theorem Sub1.tup {l r : List V} (h : Subs l r) : Sub1 (.tup l) (.tup r) := fun m v k => by
 unfold V.rep at k ⊢
 obtain ⟨vs, h1, h2⟩ := k
 exact ⟨vs, h1, h m vs h2⟩
theorem Subs.cons {x y : V} {l r : List V} (h : Sub1 x y) (h' : Subs l r) : Subs (x :: l) (y :: r) := fun m vs k => by
 obtain ⟨v, r, rfl, h1, h2⟩ := V.reps_cons'.1 k
 exact V.reps_cons.2 ⟨h m v h1, h' m r h2⟩
theorem Sub1.nat0 : Sub1 (.d (.agg [.nilsl])) (.d (.agg [natW 0])) := fun m v k => by
 rw [V.rep_d] at k ⊢
 unfold D.rep at k ⊢
 obtain ⟨vs, h1, h2, h3⟩ := k
 refine ⟨vs, h1, h2, ?_⟩
 obtain ⟨u, r, rfl, h4, h5⟩ := D.reps_cons'.1 h3
 have := (V.rep_d (m := m)).1 (Sub1.nil m u (V.rep_d.2 h4))
 exact D.reps_cons.2 ⟨this, h5⟩

theorem o_ct {m n : Nat} : cmpZ m n < 0 ↔ m < n := by unfold cmpZ; split <;> (try split) <;> omega
theorem o_cu (x y : Nat) (hx : x < 18446744073709551616) (h0 : 0 < y) : Eqn Tryd.prog o_9q [.d (.int .u64 0), .d (.int .u64 x), .d (.int .u64 y)] [] (.tup [.d (.int .u64 (x / y : Nat)), .d (.int .u64 (x % y : Nat))]) [] := by
 refine Eqn.pure o_9s (o_cb _ _) ?_
 simp only [o_9r]
 have h1 : ¬ (y : Int) = 0 := by omega
 have h1' : ¬ y = 0 := by omega
 have h2 : ¬ (y : Int) ≤ 0 := by omega
 refine G1 (fs h1 (fs h2 h1')) ?_; try with_reducible exact tt
 refine AW.cond rfl (fun h => ?_) (fun h => ?_)
 ·simp [h1'] at h
 refine G1 (fs h1 (fs h2 h1')) ?_; try with_reducible exact tt
 refine AW.cond rfl (fun h => ?_) (fun h => ?_)
 ·simp [h1', h2] at h
 refine G1 (fs h1 (fs h2 h1')) ?_; try with_reducible exact tt
 refine AW.cond rfl (fun h => ?_) (fun h => ?_)
 ·have hle := Nat.div_le_self x y
  have e1 : IntKind.u64.wrap ((x : Int) / y) = (x : Int) / y := by
   rw [← Int.natCast_ediv]
   generalize x / y = q at *
   exact wu64 (by omega) (by omega)
  have e2 : (x : Int).tmod y = ((x % y : Nat) : Int) := by rw [Int.tmod_eq_emod_of_nonneg (by omega)]; rfl
  refine G1 (fs h1 (fs h2 (fs h1' (fs e1 e2)))) ?_; try with_reducible exact tt
 ·simp at h

theorem o_cv (x y : Nat) (hx : x < 18446744073709551616) (h0 : 0 < y) (hy : y < 18446744073709551616) : Eqn Tryd.prog o_7y [.d (.sl 1 [.int .u64 x]), .d (.int .u64 y)] [] (.tup [.d (.sl 1 [.int .u64 (x / y : Nat)]), .d (.int .u64 (x % y : Nat))]) [] := by
 refine Eqn.pure o_80 (o_cb _ _) ?_
 simp only [o_7z]
 refine G0 ?_; try with_reducible exact tt
 refine AW.loopT (α := Nat) 1 (fun i => [(8, .d (.int .i64 ((i : Int) - 1))), (7, .d (.int .u64 (if i = 0 then (x % y : Nat) else 0)))]) (fun i => [(0, ⟨34, [.d (.int .u64 (if i = 0 then (x / y : Nat) else 0))]⟩)]) (fun i => i ≤ 1) (fun i => i) 1 ?_ ?_ (Nat.le_refl _) ?_ ?_ ?_
 ·simp
 ·simp
 ·simp
 ·simp
 rintro i hi
 simp
 cases i with
 | zero =>
  refine G0 ?_; try with_reducible exact tt
  refine AW.cond rfl (fun h => ?_) (fun h => ?_)
  ·simp at h
  refine AW.exit ?_
  (try (simp -implicitDefEqProofs; try simp (disch := omega) only [w64, wu64]))
  refine AW.freeze 0 1 ⟨34, _⟩ [.int .u64 (x / y : Nat)] (by rfl) (by simp) ?_
  simp
  refine G0 ?_; try with_reducible exact tt
 | succ i =>
  obtain rfl : i = 0 := by omega
  refine G0 ?_; try with_reducible exact tt
  refine AW.cond rfl (fun h => ?_) (fun h => ?_)
  ·refine G0 ?_; try with_reducible exact tt
   refine CallS.pu (o_cu x y hx h0) (R0 ?_); try with_reducible exact tt
   exact ⟨0, by omega, rfl, by simp, by simp⟩
  ·simp at h

theorem o_cw (a b : Nat) (ha : a < 18446744073709551616) (h0 : 0 < b) (hb : b < 18446744073709551616) : Eqn Tryd.prog o_a8 [.d (.agg [natW a]), .d (.agg [natW b])] [] (.tup [.d (.agg [natW (a / b)]), .d (.agg [natW (a % b)]), .d (.int .i64 0)]) [] := by
 refine Eqn.pure o_aa (o_cc _ _ _) ?_
 have sa : size a ≤ 1 := by
  rw [size]
  rcases Nat.eq_zero_or_pos a with rfl | h
  ·simp [words, wordsF]
  ·rw [o_cr h ha]; simp
 have sb : size b ≤ 1 := by rw [size, o_cr h0 hb]; simp
 simp only [o_a9]
 refine G0 ?_; try with_reducible exact tt
 refine CallS.pu (o_bx b) (R0 ?_); try with_reducible exact tt
 have hz : (b == 0) = false := by simp; omega
 refine AW.cond rfl (fun h => ?_) (fun h => ?_)
 ·simp [hz] at h
 refine G0 ?_; try with_reducible exact tt
 refine CallS.pu (o_bz a b (by omega) (by omega)) (R0 ?_); try with_reducible exact tt
 refine AW.cond rfl (fun h => ?_) (fun h => ?_)
 ·have hlt : a < b := by simpa [o_ct] using h
  rw [Nat.div_eq_of_lt hlt, Nat.mod_eq_of_lt hlt]
  refine G0 ?_; try with_reducible exact tt
  refine CallS.pu (o_bw (words a) (o_bn a) (by unfold size at sa; omega)) (R0 ?_); try with_reducible exact tt
  rw [o_bm]
  exact Sub1.tup (Subs.cons (Sub1.nat0) (Subs.refl _))
 ·have hge : ¬ a < b := fun hlt => by simp [o_ct, hlt] at h
  have e : natW a = .sl 1 [.int .u64 a] := by rw [natW, o_cr (by omega) ha]; rfl
  have e' : natW b = .sl 1 [.int .u64 b] := by rw [natW, o_cr (by omega) hb]; rfl
  refine G1 (fs e e') ?_; try with_reducible exact tt
  refine AW.cond rfl (fun h => ?_) (fun h => ?_)
  ·refine G1 (fs e e') ?_; try with_reducible exact tt
   refine CallS.pu (o_cv a b ha h0 hb) (R0 ?_); try with_reducible exact tt
   refine CallS.pu (o_bv [a / b] (o_cs (by have := Nat.div_le_self a b; omega)) (by simp)) (R0 ?_); try with_reducible exact tt
   refine CallS.pf 4 1 ⟨34, _⟩ [.int .u64 (a % b : Nat)] (o_bw [a % b] (o_cs (by have := Nat.mod_lt a h0; omega)) (by simp)) (by first | rfl | (simp; done)) (R0 ?_); try with_reducible exact tt
   simp [wval]
  ·simp [e'] at h
theorem o_cx (a b : Nat) (ha : a < 18446744073709551616) (hb : b < 18446744073709551616) : Eqn Tryd.prog o_a2 [.d (.agg [natW a]), .d (.agg [natW b])] [] (.d (.agg [natW (Nat.gcd a b)])) [] := by
 refine Eqn.pure o_a4 (o_5f _) ?_
 simp only [o_a3]
 refine G0 ?_; try with_reducible exact tt
 refine AW.loopT (α := Nat × Nat) 3 (fun _ => []) (fun p => [(0, ⟨25, [.d (natW p.1)]⟩), (1, ⟨25, [.d (natW p.2)]⟩)]) (fun p => p.1 < 18446744073709551616 ∧ p.2 < 18446744073709551616 ∧ Nat.gcd p.1 p.2 = Nat.gcd a b) (fun p => p.2) (a, b) ?_ ?_ ⟨ha, hb, rfl⟩ ?_ ?_ ?_
 ·simp
 ·simp
 ·simp
 ·simp
 rintro ⟨x, y⟩ ⟨hx, hy, hg⟩
 simp only at hx hy hg
 simp
 refine G0 ?_; try with_reducible exact tt
 refine CallS.pu (o_bx y) (R0 ?_); try with_reducible exact tt
 by_cases h0 : y = 0
 ·subst h0
  simp
  refine AW.cond rfl (fun h => ?_) (fun h => ?_)
  ·simp at h
  refine AW.exit ?_
  (try (simp -implicitDefEqProofs; try simp (disch := omega) only [w64, wu64]))
  have sx : size x ≤ 1 := by
   rw [size]
   rcases Nat.eq_zero_or_pos x with rfl | h
   ·simp [words, wordsF]
   ·rw [o_cr h hx]; simp
  refine G0 ?_; try with_reducible exact tt
  refine CallS.pu (o_bw (words x) (o_bn x) (by unfold size at sx; omega)) (R0 ?_); try with_reducible exact tt
  refine Sub1.of ?_
  rw [o_bm, ← hg, Nat.gcd_zero_right]
 ·refine AW.cond rfl (fun h => ?_) (fun h => ?_)
  ·refine G0 ?_; try with_reducible exact tt
   refine CallS.pu (o_cw x y hx (by omega) hy) (R0 ?_); try with_reducible exact tt
   have hlt := Nat.mod_lt x (show y > 0 by omega)
   exact ⟨y, x % y, ⟨hy, by omega, by rw [← hg, Nat.gcd_comm y, ← Nat.gcd_rec, Nat.gcd_comm]⟩, hlt, Subs.refl _, Subs.refl _⟩
  ·simp at h
   exact absurd h h0
end
end Go.Proofs.YtlelpbaeplcfiaaDoor.Am
namespace Go.Proofs.YtlelpbaeplcfiaaDoor.Am
section
open Go.RowKit
theorem o_cy {x : Nat} (h : x < 18446744073709551616) : size x ≤ 1 := by
 rw [size]
 rcases Nat.eq_zero_or_pos x with rfl | h0
 ·simp [words, wordsF]
 ·rw [o_cr h0 h]; simp

theorem o_cz (a : Nat) : Eqn Tryd.prog o_ab [.d (.bool false), .d (.agg [natW a])] [] (.d (.agg [natW a, .bool false])) [] := by
 refine Eqn.pure o_ad (o_5f _) ?_
 simp only [o_ac]
 refine G0 ?_; try with_reducible exact tt

theorem o_d0 (a : Nat) (s : Bool) : Eqn Tryd.prog o_a5 [.d (.agg [natW a, .bool s])] [] (.d (.agg [natW a])) [] := by
 refine Eqn.pure o_a7 (o_5f _) ?_
 simp only [o_a6]
 refine G0 ?_; try with_reducible exact tt

theorem o_d1 (a : Nat) (s : Bool) : Eqn Tryd.prog o_ae [.d (.agg [natW a, .bool s])] [] (.d (.bool s)) [] := by
 refine Eqn.pure o_ag (o_5f _) ?_
 simp only [o_af]
 refine G0 ?_; try with_reducible exact tt

theorem o_d2 (n : Nat) (h : n < 9223372036854775808) : Eqn Tryd.prog o_91 [.d (.int .i64 n)] [] (.d (.agg [natW n, .bool false])) [] := by
 refine Eqn.pure o_93 (o_5f _) ?_
 simp only [o_92]
 have h0 : ¬ (n : Int) < 0 := by omega
 refine G0 ?_; try with_reducible exact tt
 refine AW.cond rfl (fun h => ?_) (fun h => ?_)
 ·simp [h0] at h
 have e : IntKind.u64.wrap (n : Int) = n := wu64 (by omega) (by omega)
 refine G1 e ?_; try with_reducible exact tt
 refine CallS.pf 1 1 ⟨34, _⟩ [.int .u64 n] (o_bw [n] (o_cs (by omega)) (by simp)) (by first | rfl | (simp; done)) (R0 ?_); try with_reducible exact tt
 refine CallS.pu (o_cz n) (R0 ?_); try with_reducible exact tt

theorem o_d3 (a d : Nat) (s : Bool) (h : size d ≤ 1000000) : Eqn Tryd.prog o_8v [.d (.agg [natW a, .bool s, natW d])] [] (.d (.agg [natW (d + 1)])) [] := by
 refine Eqn.pure o_8x (o_5f _) ?_
 simp only [o_8w]
 refine G0 ?_; try with_reducible exact tt
 refine CallS.pf 2 1 ⟨34, _⟩ [.int .u64 (1 : Nat)] (o_bw [1] (o_cs (by omega)) (by simp)) (by first | rfl | (simp; done)) (R0 ?_); try with_reducible exact tt
 refine CallS.pu (o_cd d 1 h (by have := o_cy (x := 1) (by omega); omega)) (R0 ?_); try with_reducible exact tt
theorem o_d4 (a d : Nat) (s : Bool) : Eqn Tryd.prog o_8p [.d (.agg [natW a, .bool s, natW d])] [] (.d (.bool (d == 0))) [] := by
 refine Eqn.pure o_8r (o_5f _) ?_
 simp only [o_8q]
 refine G0 ?_; try with_reducible exact tt
 refine CallS.pu (o_bx d) (R0 ?_); try with_reducible exact tt

theorem o_d5 (a b : Nat) (ha : a < 18446744073709551616) (h0 : 0 < b) (hb : b < 18446744073709551616) : Eqn Tryd.prog o_8y [.d (.agg [natW a, .bool false]), .d (.agg [natW b])] [] (.d (.agg [natW (a / Nat.gcd a b), .bool false, natW (b / Nat.gcd a b - 1)])) [] := by
 refine Eqn.pure o_90 (o_5f _) ?_
 simp only [o_8z]
 have hg : 0 < Nat.gcd a b := Nat.gcd_pos_of_pos_right _ h0
 have hg2 : Nat.gcd a b ≤ b := Nat.gcd_le_right _ h0
 have hq : 0 < b / Nat.gcd a b := Nat.div_pos hg2 hg
 have hq2 : b / Nat.gcd a b ≤ b := Nat.div_le_self _ _
 refine G0 ?_; try with_reducible exact tt
 refine CallS.pu (o_d0 a false) (R0 ?_); try with_reducible exact tt
 refine CallS.pu (o_cx a b ha hb) (R0 ?_); try with_reducible exact tt
 generalize Nat.gcd a b = g at *
 refine CallS.pu (o_d0 a false) (R0 ?_); try with_reducible exact tt
 refine CallS.pu (o_cw a g ha hg (by omega)) (R0 ?_); try with_reducible exact tt
 refine CallS.pu (o_cw b g hb hg (by omega)) (R0 ?_); try with_reducible exact tt
 refine CallS.pf 8 1 ⟨34, _⟩ [.int .u64 (1 : Nat)] (o_bw [1] (o_cs (by omega)) (by simp)) (by first | rfl | (simp; done)) (R0 ?_); try with_reducible exact tt
 refine CallS.pu (o_ch (b / g) 1 (by have := o_cy (x := b / g) (by omega); omega) (by omega)) (R0 ?_); try with_reducible exact tt
 refine CallS.pu (o_d1 a false) (R0 ?_); try with_reducible exact tt
 refine CallS.pu (o_cz (a / g)) (R0 ?_); try with_reducible exact tt

theorem o_d6 (k : Nat) (hk : k < 64) : Eqn Tryd.prog o_7j [.d (.int .i64 k)] [] (.tup [.d (.agg [natW 1, .bool false, natW (2 ^ k - 1)]), .d (.int .i64 0)]) [] := by
 refine Eqn.pure o_7l (o_cb _ _) ?_
 simp only [o_7k]
 refine G0 ?_; try with_reducible exact tt
 refine CallS.pf 1 1 ⟨34, _⟩ [.int .u64 (1 : Nat)] (o_bw [1] (o_cs (by omega)) (by simp)) (by first | rfl | (simp; done)) (R0 ?_); try with_reducible exact tt
 refine CallS.pu (o_cq 1 k (by have := o_cy (x := 1) (by omega); omega) (by omega)) (R0 ?_); try with_reducible exact tt
 refine AW.cond rfl (fun h => ?_) (fun h => ?_)
 ·simp at h
 refine G0 ?_; try with_reducible exact tt
 refine CallS.pu (o_d2 1 (by omega)) (R0 ?_); try with_reducible exact tt
 refine CallS.pu (o_d5 1 (2 ^ k) (by omega) (Nat.two_pow_pos k) (Nat.pow_lt_pow_right (by omega) hk)) (R0 ?_); try with_reducible exact tt
end
end Go.Proofs.YtlelpbaeplcfiaaDoor.Am
namespace Go.Proofs.YtlelpbaeplcfiaaDoor.Am
section
open Go.RowKit
def lit1 : ByteArray := ⟨#[48, 49, 50, 51, 52, 53, 54, 55, 56, 57, 97, 98, 99, 100, 101, 102, 103, 104, 105, 106, 107, 108, 109, 110, 111, 112, 113, 114, 115, 116, 117, 118, 119, 120, 121, 122]⟩
def lit2 : ByteArray := ⟨#[48, 48, 48, 49, 48, 50, 48, 51, 48, 52, 48, 53, 48, 54, 48, 55, 48, 56, 48, 57, 49, 48, 49, 49, 49, 50, 49, 51, 49, 52, 49, 53, 49, 54, 49, 55, 49, 56, 49, 57, 50, 48, 50, 49, 50, 50, 50, 51, 50, 52, 50, 53, 50, 54, 50, 55, 50, 56, 50, 57, 51, 48, 51, 49, 51, 50, 51, 51, 51, 52, 51, 53, 51, 54, 51, 55, 51, 56, 51, 57, 52, 48, 52, 49, 52, 50, 52, 51, 52, 52, 52, 53, 52, 54, 52, 55, 52, 56, 52, 57, 53, 48, 53, 49, 53, 50, 53, 51, 53, 52, 53, 53, 53, 54, 53, 55, 53, 56, 53, 57, 54, 48, 54, 49, 54, 50, 54, 51, 54, 52, 54, 53, 54, 54, 54, 55, 54, 56, 54, 57, 55, 48, 55, 49, 55, 50, 55, 51, 55, 52, 55, 53, 55, 54, 55, 55, 55, 56, 55, 57, 56, 48, 56, 49, 56, 50, 56, 51, 56, 52, 56, 53, 56, 54, 56, 55, 56, 56, 56, 57, 57, 48, 57, 49, 57, 50, 57, 51, 57, 52, 57, 53, 57, 54, 57, 55, 57, 56, 57, 57]⟩
theorem o_d7 : lit1.size = 36 := by kernel_rfl
theorem o_d8 : lit2.size = 200 := by kernel_rfl
def smallS (n : Nat) : ByteArray := if n < 10 then lit1.extract n (n + 1) else lit2.extract (n * 2) (n * 2 + 2)

theorem o_d9 (n : Nat) (h : n < 100) : Eqn Tryd.prog o_at [.d (.int .i64 n)] [] (.d (.str (smallS n))) [] := by
 refine Eqn.pure o_av (o_5f _) ?_
 simp only [o_au]
 rw [show (⟨#[48, 49, 50, 51, 52, 53, 54, 55, 56, 57, 97, 98, 99, 100, 101, 102, 103, 104, 105, 106, 107, 108, 109, 110, 111, 112, 113, 114, 115, 116, 117, 118, 119, 120, 121, 122]⟩ : ByteArray) = lit1 from rfl, show (⟨#[48, 48, 48, 49, 48, 50, 48, 51, 48, 52, 48, 53, 48, 54, 48, 55, 48, 56, 48, 57, 49, 48, 49, 49, 49, 50, 49, 51, 49, 52, 49, 53, 49, 54, 49, 55, 49, 56, 49, 57, 50, 48, 50, 49, 50, 50, 50, 51, 50, 52, 50, 53, 50, 54, 50, 55, 50, 56, 50, 57, 51, 48, 51, 49, 51, 50, 51, 51, 51, 52, 51, 53, 51, 54, 51, 55, 51, 56, 51, 57, 52, 48, 52, 49, 52, 50, 52, 51, 52, 52, 52, 53, 52, 54, 52, 55, 52, 56, 52, 57, 53, 48, 53, 49, 53, 50, 53, 51, 53, 52, 53, 53, 53, 54, 53, 55, 53, 56, 53, 57, 54, 48, 54, 49, 54, 50, 54, 51, 54, 52, 54, 53, 54, 54, 54, 55, 54, 56, 54, 57, 55, 48, 55, 49, 55, 50, 55, 51, 55, 52, 55, 53, 55, 54, 55, 55, 55, 56, 55, 57, 56, 48, 56, 49, 56, 50, 56, 51, 56, 52, 56, 53, 56, 54, 56, 55, 56, 56, 56, 57, 57, 48, 57, 49, 57, 50, 57, 51, 57, 52, 57, 53, 57, 54, 57, 55, 57, 56, 57, 57]⟩ : ByteArray) = lit2 from rfl]
 have e1 := o_d7
 have e2 := o_d8
 generalize hl1 : lit1 = l1 at *
 generalize hl2 : lit2 = l2 at *
 by_cases hs : n < 10
 ·have hs' : (n : Int) < 10 := by omega
  refine G1 hs' ?_; try with_reducible exact tt
  refine AW.cond rfl (fun h => ?_) (fun h => ?_)
  ·have ew : IntKind.i64.wrap ((n : Int) + 1) = (n : Int) + 1 := w64 (by omega) (by omega)
   refine G1 (fs ew e1) ?_; try with_reducible exact tt
   refine Sub1.of ?_
   rw [smallS, if_pos hs, hl1]
  ·simp [hs] at h
 ·have hs' : ¬ (n : Int) < 10 := by omega
  refine G1 hs' ?_; try with_reducible exact tt
  refine AW.cond rfl (fun h => ?_) (fun h => ?_)
  ·simp [hs] at h
  ·have ew : IntKind.i64.wrap ((n : Int) * 2) = (n : Int) * 2 := w64 (by omega) (by omega)
   have ew2 : IntKind.i64.wrap ((n : Int) * 2 + 2) = (n : Int) * 2 + 2 := w64 (by omega) (by omega)
   refine G1 (fs ew (fs ew2 e2)) ?_; try with_reducible exact tt
   refine Sub1.of ?_
   rw [smallS, if_neg hs, hl2, show ((n : Int) * 2).toNat = n * 2 by omega, show ((n : Int) * 2 + 2).toNat = n * 2 + 2 by omega]

theorem o_da (n : Nat) : (smallS n).size ≤ 2 := by
 unfold smallS
 split <;> rw [ByteArray.size_extract] <;> omega
@[simp] theorem o_db : ByteArray.size ⟨#[]⟩ = 0 := rfl
@[simp] theorem o_dc : ByteArray.size ⟨#[47]⟩ = 1 := rfl
theorem o_dd (s : ByteArray) : s ++ (⟨#[]⟩ : ByteArray) = s := by
 exact ByteArray.append_empty
theorem o_de (n : Nat) (h : n < 100) : Eqn Tryd.prog o_9t [.d (.int .u64 n), .d (.int .i64 10)] [] (.d (.str (smallS n))) [] := by
 refine Eqn.pure o_9v (o_5f _) ?_
 simp only [o_9u]
 have h1 : (n : Int) < 100 := by omega
 refine G1 h1 ?_; try with_reducible exact tt
 refine AW.cond rfl (fun h => ?_) (fun h => ?_)
 ·refine G1 h1 ?_; try with_reducible exact tt
  refine AW.cond rfl (fun h => ?_) (fun h => ?_)
  ·have e : IntKind.i64.wrap (n : Int) = n := w64 (by omega) (by omega)
   refine G1 e ?_; try with_reducible exact tt
   refine CallS.pu (o_d9 n (by omega)) (R0 ?_); try with_reducible exact tt
  ·simp [h1] at h
 ·simp at h

theorem o_df (n : Nat) (h : n < 100) : Eqn Tryd.prog o_84 [.d (.int .u64 n), .d (.int .i64 10)] [] (.d (.str (smallS n))) [] := by
 refine Eqn.pure o_86 (o_5f _) ?_
 simp only [o_85]
 refine G0 ?_; try with_reducible exact tt
 refine CallS.pu (o_de n h) (R0 ?_); try with_reducible exact tt

theorem o_dg (n : Nat) (h : n < 100) : Eqn Tryd.prog o_6m [.d (.agg [natW n])] [] (.d (.str (smallS n))) [] := by
 refine Eqn.pure o_6o (o_5f _) ?_
 simp only [o_6n]
 refine G0 ?_; try with_reducible exact tt
 refine CallS.pu (o_bx n) (R0 ?_); try with_reducible exact tt
 rcases Nat.eq_zero_or_pos n with rfl | h0
 ·refine AW.cond rfl (fun h => ?_) (fun h => ?_)
  ·refine G0 ?_; try with_reducible exact tt
   exact Sub1.of (by kernel_rfl)
  ·simp at h
 have e : natW n = .sl 1 [.int .u64 n] := by rw [natW, o_cr h0 (by omega)]; rfl
 have hz : ¬ n = 0 := by omega
 refine AW.cond rfl (fun h => ?_) (fun h => ?_)
 ·simp [hz] at h
 refine G1 e ?_; try with_reducible exact tt
 refine AW.loopT (α := Nat) 1 (fun i => [(4, .d (if i = 0 then .sl 0 [] else .sl 1 [.int .u64 n])), (3, .d (if i = 0 then .str (smallS n) else .str ⟨#[]⟩))]) (fun i => []) (fun i => i ≤ 1) (fun i => i) 1 ?_ ?_ (Nat.le_refl _) ?_ ?_ ?_
 ·simp
 ·simp
 ·simp
 ·simp
 rintro i hi
 simp
 cases i with
 | zero =>
  refine G0 ?_; try with_reducible exact tt
  refine AW.cond rfl (fun h => ?_) (fun h => ?_)
  ·simp at h
  refine G0 ?_; try with_reducible exact tt
 | succ i =>
  obtain rfl : i = 0 := by omega
  refine G0 ?_; try with_reducible exact tt
  refine AW.cond rfl (fun h => ?_) (fun h => ?_)
  ·refine G0 ?_; try with_reducible exact tt
   have hs := o_cv n 1000000000000000000 (by omega) (by omega) (by omega)
   rw [show n / 1000000000000000000 = 0 by omega, show n % 1000000000000000000 = n by omega] at hs
   refine CallS.pu (hs) (R0 ?_); try with_reducible exact tt
   have ht := o_bv [0] (o_cs (by omega)) (by simp)
   rw [show wval [0] = 0 by rfl] at ht
   refine CallS.pu (ht) (R0 ?_); try with_reducible exact tt
   refine CallS.pu (o_df n (by omega)) ?_
   (try (simp -implicitDefEqProofs [o_bs]; try simp (disch := omega) only [w64, wu64]))
   repeat (first | refine AW.seq ?_ | refine AW.block ?_ | (refine AW.reg mix ?_; simp -implicitDefEqProofs [o_bs]; try simp (disch := omega) only [w64, wu64]) | (refine need.of (by first | omega | kernel_rfl) ?_) | (refine AW.fin ?_; try simp -implicitDefEqProofs [o_bs]))
   refine AW.cond rfl (fun h => ?_) (fun h => ?_)
   ·simp at h
   have s1 := o_da n
   have sn := o_dd (smallS n)
   repeat (first | refine AW.seq ?_ | refine AW.block ?_ | (refine AW.reg mix ?_; simp -implicitDefEqProofs [o_bs, sn]; try simp (disch := omega) only [w64, wu64]) | (refine need.of (by first | omega | kernel_rfl) ?_) | (refine AW.fin ?_; try simp -implicitDefEqProofs [o_bs, sn]))
   exact ⟨0, by omega, rfl, by simp [sn], by simp⟩
  ·simp at h

theorem o_dh (n : Nat) (h : n < 100) : Eqn Tryd.prog o_8s [.d (.agg [natW n, .bool false])] [] (.d (.str (smallS n))) [] := by
 refine Eqn.pure o_8u (o_5f _) ?_
 simp only [o_8t]
 refine G0 ?_; try with_reducible exact tt
 refine AW.cond rfl (fun h => ?_) (fun h => ?_)
 ·simp at h
 refine G0 ?_; try with_reducible exact tt
 refine CallS.pu (o_dg n (by omega)) (R0 ?_); try with_reducible exact tt

theorem o_di (n d : Nat) (h : n < 100) (hd : d + 1 < 100) (h0 : d ≠ 0) : Eqn Tryd.prog o_7d [.d (.agg [natW n, .bool false, natW d])] [] (.d (.str (smallS n ++ ⟨#[47]⟩ ++ smallS (d + 1)))) [] := by
 refine Eqn.pure o_7f (o_5f _) ?_
 simp only [o_7e]
 have s1 := o_da n
 have s2 := o_da (d + 1)
 refine G0 ?_; try with_reducible exact tt
 refine CallS.pu (o_d4 n d false) (R0 ?_); try with_reducible exact tt
 refine AW.cond rfl (fun h => ?_) (fun h => ?_)
 ·simp [h0] at h
 refine G0 ?_; try with_reducible exact tt
 refine CallS.pu (o_dh n (by omega)) (R0 ?_); try with_reducible exact tt
 refine CallS.pu (o_d3 n d false (by have := o_cy (x := d) (by omega); omega)) (R0 ?_); try with_reducible exact tt
 refine CallS.pu (o_dg (d + 1) hd) (R0 ?_); try with_reducible exact tt
end
end Go.Proofs.YtlelpbaeplcfiaaDoor.Am
namespace Go.Proofs.YtlelpbaeplcfiaaDoor.Am
section
open Go.RowKit
def BL (cs : List Bool) : D := .sl cs.length (cs.map .bool)
def flipB (cs : List Bool) (p : Nat) (dead : Bool) : Bool := if dead ∨ p = cs.length then false else cs.getD p false
def flipE (cs : List Bool) (p : Nat) (dead : Bool) : Int := if dead ∨ p = cs.length then 8 else 0
def flipP (cs : List Bool) (p : Nat) (dead : Bool) : Nat := if dead ∨ p = cs.length then p else p + 1
def flipD (cs : List Bool) (p : Nat) (dead : Bool) : Bool := if dead ∨ p = cs.length then true else dead

def halfR (cs : List Bool) : Nat → Nat → Bool → Bool × Int × Nat × Bool
 | 0, p, dd => (true, 0, p, dd)
 | k + 1, p, dd => if flipB cs p dd then halfR cs k (flipP cs p dd) (flipD cs p dd) else (false, flipE cs p dd, flipP cs p dd, flipD cs p dd)
end
end Go.Proofs.YtlelpbaeplcfiaaDoor.Am
namespace Go.Proofs.YtlelpbaeplcfiaaDoor.Am
section
open Go.RowKit
theorem o_dj (d : Int) : Eqn Tryd.prog o_7a [.d (.int .i64 d)] [] (.d (.bool (decide (0 ≤ d ∧ d ≤ 8)))) [] := by
 refine Eqn.pure o_7c (o_5f _) ?_
 simp only [o_7b]
 by_cases h : 0 ≤ d
 ·refine G1 h ?_; try with_reducible exact tt
 ·refine G1 h ?_; try with_reducible exact tt

def okK (k : Int) : Bool := decide (0 ≤ k ∧ k ≤ 1023)
def wrongZ (d : Int) (ks : List Int) : Int := if 0 ≤ d ∧ d ≤ 8 then (if ks.all okK then 0 else 2) else 10

theorem o_dk (d : Int) (ks : List Int) (hn : ks.length ≤ 1000000) : Eqn Tryd.prog o_8g [.d (.int .i64 d), .d (.sl ks.length (ks.map fun k : Int => .int .i64 k))] [] (.d (.int .i64 (wrongZ d ks))) [] := by
 refine Eqn.pure o_8i (o_5f _) ?_
 simp only [o_8h]
 refine G0 ?_; try with_reducible exact tt
 refine CallS.pu (o_dj d) (R0 ?_); try with_reducible exact tt
 by_cases hd : 0 ≤ d ∧ d ≤ 8
 ·refine AW.cond rfl (fun h => ?_) (fun h => ?_)
  ·simp [hd] at h
  refine G0 ?_; try with_reducible exact tt
  refine AW.loopT (α := Nat) 0 (fun i => [(12, .d (.int .i64 (i : Int)))]) (fun i => []) (fun i => i ≤ ks.length ∧ (ks.take i).all okK = true) (fun i => ks.length - i) 0 ?_ ?_ ⟨Nat.zero_le _, by simp⟩ ?_ ?_ ?_
  ·simp
  ·simp
  ·simp
  ·simp
  rintro i ⟨hi, hall⟩
  simp
  by_cases h : i = ks.length
  ·subst h
   rw [List.take_length] at hall
   refine G0 ?_; try with_reducible exact tt
   refine AW.cond rfl (fun h => ?_) (fun h => ?_)
   ·simp at h
   refine G0 ?_; try with_reducible exact tt
   refine Sub1.int ?_
   rw [wrongZ, if_pos hd, if_pos hall]
  ·have hi' : i < ks.length := by omega
   have hp : (i : Int) < ks.length := by omega
   refine G1 (fs hi' hp) ?_; try with_reducible exact tt
   refine AW.cond rfl (fun h => ?_) (fun h => ?_)
   ·have hbad : okK ks[i] = false → wrongZ d ks = 2 := by
     intro hb
     rw [wrongZ, if_pos hd, if_neg]
     intro ha
     rw [List.all_eq_true] at ha
     have := ha ks[i] (List.getElem_mem _)
     rw [hb] at this; cases this
    by_cases h0 : ks[i] < 0
    ·refine G1 (fs hi' (fs hp h0)) ?_; try with_reducible exact tt
     refine AW.cond rfl (fun h => ?_) (fun h => ?_)
     ·refine G0 ?_; try with_reducible exact tt
      refine Sub1.int ?_
      rw [hbad (by simp [okK]; omega)]
     ·simp [h0] at h
    ·by_cases h1 : 1023 < ks[i]
     ·refine G1 (fs hi' (fs hp (fs h0 h1))) ?_; try with_reducible exact tt
      refine AW.cond rfl (fun h => ?_) (fun h => ?_)
      ·refine G0 ?_; try with_reducible exact tt
       refine Sub1.int ?_
       rw [hbad (by simp [okK]; omega)]
      ·simp [h0, h1] at h
     ·refine G1 (fs hi' (fs hp (fs h0 h1))) ?_; try with_reducible exact tt
      refine AW.cond rfl (fun h => ?_) (fun h => ?_)
      ·simp [h0, h1] at h
      have ew : IntKind.i64.wrap ((i : Int) + 1) = (i : Int) + 1 := w64 (by omega) (by omega)
      refine G1 ew ?_; try with_reducible exact tt
      refine ⟨i + 1, ⟨by omega, ?_⟩, by omega, by simp⟩
      rw [List.take_add_one, List.getElem?_eq_getElem hi']
      intro x hx
      rcases List.mem_append.1 hx with hx | hx
      ·exact List.all_eq_true.1 hall x hx
      ·simp at hx
       subst hx
       simp [okK]; omega
   ·simp [hi'] at h
 ·refine AW.cond rfl (fun h => ?_) (fun h => ?_)
  ·refine G0 ?_; try with_reducible exact tt
   refine Sub1.int ?_
   rw [wrongZ, if_neg hd]
  ·simp at h
   exact absurd h hd

def partV (d k : Nat) : Int := bits .and .i64 k (IntKind.i64.wrap (IntKind.i64.wrap (2 ^ d) - 1))
theorem o_dl (d k : Nat) (hd : d ≤ 8) (hk : k ≤ 1023) : Eqn Tryd.prog o_8j [.d (.int .i64 d), .d (.int .i64 k)] [] (.tup [.d (.int .i64 (k / 2 ^ d : Nat)), .d (.int .i64 (partV d k))]) [] := by
 refine Eqn.pure o_8l (o_cb _ _) ?_
 simp only [o_8k]
 refine G0 ?_; try with_reducible exact tt
 exact Sub1.of rfl

theorem o_dm (d k : Int) : Eqn Tryd.prog o_8g [.d (.int .i64 d), .d (.sl 1 [.int .i64 k])] [] (.d (.int .i64 (wrongZ d [k]))) [] := o_dk d [k] (by simp)
theorem o_dn {d k : Int} {ks : List Int} (h : wrongZ d (k :: ks) = 0) : 0 ≤ d ∧ d ≤ 8 ∧ 0 ≤ k ∧ k ≤ 1023 := by
 unfold wrongZ at h
 split at h
 ·split at h
  ·rename_i h1 h2
   simp [okK] at h2
   omega
  ·omega
 ·omega

def againR (cs : List Bool) (d k j : Int) : Bool × Int × Nat × Bool := if wrongZ d [k, j] = 0 then halfR cs (k.toNat / 2 ^ d.toNat - j.toNat / 2 ^ d.toNat) 0 false else (false, wrongZ d [k, j], 0, false)

def stepR (cs : List Bool) (d k : Int) : Bool × Int × Nat × Bool := if wrongZ d [k] = 0 then halfR cs (k.toNat / 2 ^ d.toNat) 0 false else (false, wrongZ d [k], 0, false)
end
end Go.Proofs.YtlelpbaeplcfiaaDoor.Am
namespace Go.Proofs.YtlelpbaeplcfiaaDoor.Am
section
open Go.RowKit
def ratioR (cs : List Bool) (q : Nat) : Nat → Nat → Nat → Bool → Bool × Int × Nat × Bool
 | 0, _, p, dd => (true, 0, p, dd)
 | f + 1, r, p, dd =>
  if r < q then
   if flipE cs p dd = 0 then
    if flipB cs p dd ≠ decide (q ≤ r + r) ∨ (if q ≤ r + r then r + r - q else r + r) = 0 then (decide (q ≤ r + r) && !flipB cs p dd, 0, flipP cs p dd, flipD cs p dd)
    else ratioR cs q f (if q ≤ r + r then r + r - q else r + r) (flipP cs p dd) (flipD cs p dd)
   else (false, flipE cs p dd, flipP cs p dd, flipD cs p dd)
  else (true, 0, p, dd)
def ratioA (cs : List Bool) (a q : Nat) (p : Nat) (dd : Bool) : Bool × Int × Nat × Bool := if a = 0 then (false, 0, p, dd) else ratioR cs q (cs.length + 1 - p) a p dd
end
end Go.Proofs.YtlelpbaeplcfiaaDoor.Am
namespace Go.Proofs.YtlelpbaeplcfiaaDoor.Am
section
open Go.RowKit
def powerR (cs : List Bool) (a q : Nat) : Nat → Nat → Bool → Bool × Int × Nat × Bool
 | 0, p, dd => (true, 0, p, dd)
 | k + 1, p, dd => if (ratioA cs a q p dd).1 then powerR cs a q k (ratioA cs a q p dd).2.2.1 (ratioA cs a q p dd).2.2.2 else ratioA cs a q p dd
end
end Go.Proofs.YtlelpbaeplcfiaaDoor.Am
namespace Go.Proofs.YtlelpbaeplcfiaaDoor.Am
section
open Go.RowKit
def wrongM (d : Int) (ks : List Int) : Int := if 1 ≤ d ∧ d ≤ 4096 then (if ks.all okK then 0 else 2) else 10

def stepM (cs : List Bool) (d k : Int) (p : Nat) (dd : Bool) : Bool × Int × Nat × Bool := if wrongM d [k] = 0 then powerR cs d.toNat (d.toNat + 1) k.toNat p dd else (false, wrongM d [k], p, dd)
end
end Go.Proofs.YtlelpbaeplcfiaaDoor.Am
namespace Go.Proofs.YtlelpbaeplcfiaaDoor.Am
section
open Go.RowKit
end
end Go.Proofs.YtlelpbaeplcfiaaDoor.Am
namespace Go.Proofs.YtlelpbaeplcfiaaDoor.Am
section
def bitsN (n : Nat) : Nat := if n = 0 then 0 else Nat.log2 n + 1
theorem o_do (n : Nat) : n < 2 ^ bitsN n := by
 unfold bitsN
 split
 ·omega
 ·exact Nat.lt_log2_self
theorem o_dp {n k : Nat} (h : n < 2 ^ k) : bitsN n ≤ k := by
 unfold bitsN
 split
 ·omega
 ·rename_i h0
  have := (Nat.log2_lt h0).2 h
  omega
def moreY (s t : Nat) : Nat := t + (if t / 2 ^ s * 2 ^ s < t then t / 2 ^ s + 1 else t / 2 ^ s)
def shiftY (s t : Nat) : Nat := bitsN t - 1 - 2 * s
structure Pl where
 x : Nat
 shift : Nat
 value : Nat
 reply : Nat
def nextY (s : Nat) (p : Pl) : Pl := if p.reply ≤ p.value + 2 ^ p.shift then ⟨p.x + 1, shiftY s (moreY s p.reply), p.value + 2 ^ p.shift, moreY s p.reply⟩ else ⟨p.x, p.shift, p.value + 2 ^ p.shift, p.reply⟩
def placeY (s : Nat) : Nat → Pl
 | 0 => ⟨0, 0, 0, 2 ^ (2 * s)⟩
 | k + 1 => nextY s (placeY s k)

theorem o_dq {n k : Nat} (h : 2 ^ k ≤ n) : bitsN n = k + bitsN (n / 2 ^ k) := by
 have hp := Nat.two_pow_pos k
 have hq : 0 < n / 2 ^ k := Nat.div_pos h hp
 have h1 := o_do (n / 2 ^ k)
 have h2 : 2 ^ (bitsN (n / 2 ^ k) - 1) ≤ n / 2 ^ k := by
  unfold bitsN
  rw [if_neg (by omega), Nat.add_sub_cancel]
  exact Nat.log2_self_le (by omega)
 have h3 : 0 < bitsN (n / 2 ^ k) := by unfold bitsN; rw [if_neg (by omega)]; omega
 apply Nat.le_antisymm
 ·apply o_dp
  rw [Nat.pow_add, Nat.mul_comm]
  exact (Nat.div_lt_iff_lt_mul hp).1 h1
 ·apply Nat.le_of_not_lt
  intro hlt
  have h4 := o_do n
  have h5 : 2 ^ bitsN n ≤ 2 ^ (k + (bitsN (n / 2 ^ k) - 1)) := Nat.pow_le_pow_right (by omega) (by omega)
  rw [Nat.pow_add] at h5
  have h6 : 2 ^ k * 2 ^ (bitsN (n / 2 ^ k) - 1) ≤ n := by
   rw [Nat.mul_comm]; exact Nat.le_trans (Nat.mul_le_mul_right _ h2) (Nat.div_mul_le_self _ _)
  omega
theorem o_dr {n : Nat} (h : 0 < n) : 2 ^ (bitsN n - 1) ≤ n ∧ 0 < bitsN n := by
 unfold bitsN
 rw [if_neg (by omega), Nat.add_sub_cancel]
 exact ⟨Nat.log2_self_le (by omega), by omega⟩
end
end Go.Proofs.YtlelpbaeplcfiaaDoor.Am
namespace Go.Proofs.YtlelpbaeplcfiaaDoor.Am
section
set_option maxRecDepth 10000
theorem o_ds {y1 y0 u u1 q r : Nat} (e : q * y1 + r = u) (hle : q * y0 ≤ r * 4294967296 + u1) (hgt : u * 4294967296 + u1 < (q + 1) * (y1 * 4294967296 + y0)) :
  (u * 4294967296 + u1) / (y1 * 4294967296 + y0) = q := by
 have h1 : q * (y1 * 4294967296 + y0) ≤ u * 4294967296 + u1 := by
  rw [Nat.mul_add, ← Nat.mul_assoc, ← e, Nat.add_mul]
  omega
 have hpos : 0 < y1 * 4294967296 + y0 := by
  rcases Nat.eq_zero_or_pos (y1 * 4294967296 + y0) with h | h
  ·rw [h] at hgt; omega
  ·exact h
 exact Nat.div_eq_of_lt_le h1 hgt
theorem lin (a r u u1 b z : Nat) (e : a + r = u) (hc : r * b + u1 < z) : u * b + u1 < a * b + z := by
 subst e; rw [Nat.add_mul]; omega
theorem o_dt {y1 y0 u u1 q r : Nat} (e : q * y1 + r = u) (hu : u < y1 * 4294967296 + y0) (hu1 : u1 < 4294967296) (hc : 4294967296 ≤ q ∨ r * 4294967296 + u1 < q * y0) :
  0 < q ∧ (q - 1) * y1 + (r + y1) = u ∧ u * 4294967296 + u1 < (q - 1 + 1) * (y1 * 4294967296 + y0) := by
 have hq : 0 < q := by
  rcases Nat.eq_zero_or_pos q with h | h
  ·subst h; omega
  ·exact h
 have e1 : (q - 1) * y1 + y1 = q * y1 := by
  obtain ⟨k, rfl⟩ : ∃ k, q = k + 1 := ⟨q - 1, by omega⟩
  rw [Nat.add_sub_cancel, Nat.add_mul, Nat.one_mul]
 have e2 : q - 1 + 1 = q := by omega
 rw [e2]
 refine ⟨hq, by omega, ?_⟩
 rcases hc with hc | hc
 ·have h1 : (y1 * 4294967296 + y0) * 4294967296 ≤ (y1 * 4294967296 + y0) * q := Nat.mul_le_mul_left _ hc
  rw [Nat.mul_comm q]
  obtain ⟨p, hp⟩ : ∃ p, p = (y1 * 4294967296 + y0) * q := ⟨_, rfl⟩
  rw [← hp] at h1 ⊢
  clear hp e1
  omega
 ·rw [Nat.mul_add, ← Nat.mul_assoc]
  obtain ⟨a, ha⟩ : ∃ a, a = q * y1 := ⟨_, rfl⟩
  rw [← ha] at e ⊢
  exact lin a r u u1 _ _ e hc
theorem o_du {y1 y0 u q r : Nat} (e : q * y1 + r = u) (hu : u < y1 * 4294967296 + y0) (hy0 : y0 < 4294967296) (hr : 4294967296 ≤ r) (u1 : Nat) : q * y0 ≤ r * 4294967296 + u1 := by
 have hq : q < 4294967296 := by
  apply Nat.lt_of_not_le
  intro h
  have : 4294967296 * y1 ≤ q * y1 := Nat.mul_le_mul_right y1 h
  omega
 have : q * y0 ≤ 4294967295 * 4294967295 := Nat.mul_le_mul (by omega) (by omega)
 omega
theorem o_dv {y1 y0 u u1 : Nat} (h1 : 0 < y1) (hu1 : u1 < 4294967296) : u * 4294967296 + u1 < (u / y1 + 1) * (y1 * 4294967296 + y0) := by
 have h := Nat.lt_mul_div_succ u h1
 rw [Nat.mul_comm] at h
 have h2 : (u / y1 + 1) * (y1 * 4294967296) ≤ (u / y1 + 1) * (y1 * 4294967296 + y0) := Nat.mul_le_mul_left _ (by omega)
 rw [← Nat.mul_assoc] at h2
 generalize (u / y1 + 1) * y1 = a at *
 omega

theorem halves' {y a b v0 q1 q0 : Nat} (hy : 0 < y) (h1 : a / y = q1) (h0 : ((a - q1 * y) * b + v0) / y = q0) :
  (a * b + v0) / y = q1 * b + q0 ∧ (a * b + v0) % y = (a - q1 * y) * b + v0 - q0 * y := by
 have a1 := Nat.div_add_mod a y
 have b1 := Nat.mod_lt a hy
 rw [h1, Nat.mul_comm] at a1
 obtain ⟨r1, hr1⟩ : ∃ r, r = a % y := ⟨_, rfl⟩
 rw [← hr1] at a1 b1
 have e1 : a - q1 * y = r1 := by omega
 rw [e1] at h0 ⊢
 have a0 := Nat.div_add_mod (r1 * b + v0) y
 have b0 := Nat.mod_lt (r1 * b + v0) hy
 rw [h0, Nat.mul_comm] at a0
 obtain ⟨r0, hr0⟩ : ∃ r, r = (r1 * b + v0) % y := ⟨_, rfl⟩
 rw [← hr0] at a0 b0
 have e0 : r1 * b + v0 - q0 * y = r0 := by omega
 rw [e0]
 have hN : a * b + v0 = (q1 * b + q0) * y + r0 := by
  have hp : q1 * b * y = q1 * y * b := Nat.mul_right_comm _ _ _
  rw [Nat.add_mul, hp, ← a1, Nat.add_mul]
  omega
 rw [hN]
 exact ⟨by rw [Nat.mul_comm, Nat.mul_add_div hy, Nat.div_eq_of_lt b0, Nat.add_zero], by rw [Nat.mul_comm, Nat.mul_add_mod]; exact Nat.mod_eq_of_lt b0⟩

theorem o_dw {n y s : Nat} : n * 2 ^ s / (y * 2 ^ s) = n / y ∧ n * 2 ^ s % (y * 2 ^ s) / 2 ^ s = n % y := by
 have hp := Nat.two_pow_pos s
 refine ⟨Nat.mul_div_mul_right _ _ hp, ?_⟩
 rw [Nat.mul_mod_mul_right, Nat.mul_div_cancel _ hp]

def shrL (k : Nat) : List Nat → List Nat
 | [] => []
 | x :: l => (x / 2 ^ k + l.getD 0 0 * 2 ^ (64 - k) % 18446744073709551616) :: shrL k l
end
end Go.Proofs.YtlelpbaeplcfiaaDoor.Am
namespace Go.Proofs.YtlelpbaeplcfiaaDoor.Am
section
open Go.RowKit
theorem o_dx : ∀ i : Nat, i < 256 → (([0, 1, 2, 2, 3, 3, 3, 3, 4, 4, 4, 4, 4, 4, 4, 4, 5, 5, 5, 5, 5, 5, 5, 5, 5, 5, 5, 5, 5, 5, 5, 5, 6, 6, 6, 6, 6, 6, 6, 6, 6, 6, 6, 6, 6, 6, 6, 6, 6, 6, 6, 6, 6, 6, 6, 6, 6, 6, 6, 6, 6, 6, 6, 6, 7, 7, 7, 7, 7, 7, 7, 7, 7, 7, 7, 7, 7, 7, 7, 7, 7, 7, 7, 7, 7, 7, 7, 7, 7, 7, 7, 7, 7, 7, 7, 7, 7, 7, 7, 7, 7, 7, 7, 7, 7, 7, 7, 7, 7, 7, 7, 7, 7, 7, 7, 7, 7, 7, 7, 7, 7, 7, 7, 7, 7, 7, 7, 7, 8, 8, 8, 8, 8, 8, 8, 8, 8, 8, 8, 8, 8, 8, 8, 8, 8, 8, 8, 8, 8, 8, 8, 8, 8, 8, 8, 8, 8, 8, 8, 8, 8, 8, 8, 8, 8, 8, 8, 8, 8, 8, 8, 8, 8, 8, 8, 8, 8, 8, 8, 8, 8, 8, 8, 8, 8, 8, 8, 8, 8, 8, 8, 8, 8, 8, 8, 8, 8, 8, 8, 8, 8, 8, 8, 8, 8, 8, 8, 8, 8, 8, 8, 8, 8, 8, 8, 8, 8, 8, 8, 8, 8, 8, 8, 8, 8, 8, 8, 8, 8, 8, 8, 8, 8, 8, 8, 8, 8, 8, 8, 8, 8, 8, 8, 8, 8, 8, 8, 8, 8, 8, 8, 8, 8, 8, 8, 8] : List UInt8)[i]?.getD 0).toNat = bitsN i := by
 have h : ((List.range 256).all fun i => (([0, 1, 2, 2, 3, 3, 3, 3, 4, 4, 4, 4, 4, 4, 4, 4, 5, 5, 5, 5, 5, 5, 5, 5, 5, 5, 5, 5, 5, 5, 5, 5, 6, 6, 6, 6, 6, 6, 6, 6, 6, 6, 6, 6, 6, 6, 6, 6, 6, 6, 6, 6, 6, 6, 6, 6, 6, 6, 6, 6, 6, 6, 6, 6, 7, 7, 7, 7, 7, 7, 7, 7, 7, 7, 7, 7, 7, 7, 7, 7, 7, 7, 7, 7, 7, 7, 7, 7, 7, 7, 7, 7, 7, 7, 7, 7, 7, 7, 7, 7, 7, 7, 7, 7, 7, 7, 7, 7, 7, 7, 7, 7, 7, 7, 7, 7, 7, 7, 7, 7, 7, 7, 7, 7, 7, 7, 7, 7, 8, 8, 8, 8, 8, 8, 8, 8, 8, 8, 8, 8, 8, 8, 8, 8, 8, 8, 8, 8, 8, 8, 8, 8, 8, 8, 8, 8, 8, 8, 8, 8, 8, 8, 8, 8, 8, 8, 8, 8, 8, 8, 8, 8, 8, 8, 8, 8, 8, 8, 8, 8, 8, 8, 8, 8, 8, 8, 8, 8, 8, 8, 8, 8, 8, 8, 8, 8, 8, 8, 8, 8, 8, 8, 8, 8, 8, 8, 8, 8, 8, 8, 8, 8, 8, 8, 8, 8, 8, 8, 8, 8, 8, 8, 8, 8, 8, 8, 8, 8, 8, 8, 8, 8, 8, 8, 8, 8, 8, 8, 8, 8, 8, 8, 8, 8, 8, 8, 8, 8, 8, 8, 8, 8, 8, 8, 8, 8] : List UInt8)[i]?.getD 0).toNat == bitsN i) = true := by kernel_rfl
 intro i hi
 have := List.all_eq_true.1 h i (List.mem_range.2 hi)
 exact eq_of_beq this

set_option maxHeartbeats 1000000 in
theorem o_dy (x : Nat) (hx : x < 18446744073709551616) : Eqn Tryd.prog o_b8 [.d (.int .u64 x)] [] (.d (.int .i64 (bitsN x))) [] := by
 refine Eqn.pure o_ba (o_5f _) ?_
 simp only [o_b9]
 obtain ⟨x1, n1, h1, hx1, hn1, e1⟩ : ∃ x1 n1 : Nat, (x1, n1) = (if 4294967296 ≤ x then (x / 4294967296, 32) else (x, 0)) ∧ x1 < 4294967296 ∧ n1 ≤ 32 ∧ bitsN x = n1 + bitsN x1 := by
  by_cases h : 4294967296 ≤ x
  ·exact ⟨x / 4294967296, 32, by rw [if_pos h], by omega, by omega, o_dq (k := 32) h⟩
  ·exact ⟨x, 0, by rw [if_neg h], by omega, by omega, by omega⟩
 obtain ⟨x2, n2, h2, hx2, hn2, e2⟩ : ∃ x2 n2 : Nat, (x2, n2) = (if 65536 ≤ x1 then (x1 / 65536, n1 + 16) else (x1, n1)) ∧ x2 < 65536 ∧ n2 ≤ 48 ∧ bitsN x = n2 + bitsN x2 := by
  by_cases h : 65536 ≤ x1
  ·exact ⟨x1 / 65536, n1 + 16, by rw [if_pos h], by omega, by omega, by have := o_dq (k := 16) h; rw [e1, this]; simp; omega⟩
  ·exact ⟨x1, n1, by rw [if_neg h], by omega, by omega, by omega⟩
 obtain ⟨x3, n3, h3, hx3, hn3, e3⟩ : ∃ x3 n3 : Nat, (x3, n3) = (if 256 ≤ x2 then (x2 / 256, n2 + 8) else (x2, n2)) ∧ x3 < 256 ∧ n3 ≤ 56 ∧ bitsN x = n3 + bitsN x3 := by
  by_cases h : 256 ≤ x2
  ·exact ⟨x2 / 256, n2 + 8, by rw [if_pos h], by omega, by omega, by have := o_dq (k := 8) h; rw [e2, this]; simp; omega⟩
  ·exact ⟨x2, n2, by rw [if_neg h], by omega, by omega, by omega⟩
 rw [e3]
 clear e1 e2 e3
 refine AW.seq (AW.reg mix ?_)
 (simp -implicitDefEqProofs; try simp (disch := omega) only [w64, wu64])
 refine AW.cut 0 [(0, .d (.int .u64 x1)), (2, .d (.int .i64 n1))] [] (by simp) (by simp) ?_ ?_
 ·have hd : (x : Int) / 4294967296 = (x / 4294967296 : Nat) := rfl
  refine G0 ?_; try with_reducible exact tt
  refine AW.cond rfl (fun h => ?_) (fun h => ?_)
  ·rw [if_pos (by simp at h; omega)] at h1
   cases h1
   generalize x / 4294967296 = q at *
   refine G1 hd ?_; try with_reducible exact tt
  ·rw [if_neg (by simp at h; omega)] at h1
   cases h1
   refine G0 ?_; try with_reducible exact tt
 clear h1 hx
 simp
 refine AW.cut 0 [(0, .d (.int .u64 x2)), (2, .d (.int .i64 n2))] [] (by simp) (by simp) ?_ ?_
 ·have hd : (x1 : Int) / 65536 = (x1 / 65536 : Nat) := rfl
  have ew : IntKind.i64.wrap ((n1 : Int) + 16) = ((n1 + 16 : Nat) : Int) := w64 (by omega) (by omega)
  refine G0 ?_; try with_reducible exact tt
  refine AW.cond rfl (fun h => ?_) (fun h => ?_)
  ·rw [if_pos (by simp at h; omega)] at h2
   cases h2
   generalize x1 / 65536 = q at *
   refine G1 (fs hd ew) ?_; try with_reducible exact tt
  ·rw [if_neg (by simp at h; omega)] at h2
   cases h2
   refine G0 ?_; try with_reducible exact tt
 clear h2 hx1 hn1
 simp
 refine AW.cut 0 [(0, .d (.int .u64 x3)), (2, .d (.int .i64 n3))] [] (by simp) (by simp) ?_ ?_
 ·have hd : (x2 : Int) / 256 = (x2 / 256 : Nat) := rfl
  have ew : IntKind.i64.wrap ((n2 : Int) + 8) = ((n2 + 8 : Nat) : Int) := w64 (by omega) (by omega)
  refine G0 ?_; try with_reducible exact tt
  refine AW.cond rfl (fun h => ?_) (fun h => ?_)
  ·rw [if_pos (by simp at h; omega)] at h3
   cases h3
   generalize x2 / 256 = q at *
   refine G1 (fs hd ew) ?_; try with_reducible exact tt
  ·rw [if_neg (by simp at h; omega)] at h3
   cases h3
   refine G0 ?_; try with_reducible exact tt
 clear h3 hx2 hn2
 simp
 have ew1 : IntKind.u8.wrap (x3 : Int) = x3 := by rw [show IntKind.u8.wrap (x3 : Int) = (x3 : Int) % 256 from rfl]; omega
 have hb := o_dx x3 hx3
 have hB : bitsN x3 ≤ 8 := o_dp (by omega)
 have ew2 : IntKind.i64.wrap (bitsN x3 : Int) = bitsN x3 := w64 (by omega) (by omega)
 have ew3 : IntKind.i64.wrap ((n3 : Int) + bitsN x3) = (n3 : Int) + bitsN x3 := w64 (by omega) (by omega)
 refine AW.seq (AW.reg mix ?_)
 simp [ew1, hb, ew2, ew3]
 refine need.of (Nat.lt_of_lt_of_le hx3 (by decide)) ?_
 refine G0 ?_; try with_reducible exact tt

theorem o_dz (x : Nat) (hx : x < 18446744073709551616) : Eqn Tryd.prog o_aq [.d (.int .u64 x)] [] (.d (.int .i64 (64 - bitsN x : Nat))) [] := by
 refine Eqn.pure o_as (o_5f _) ?_
 simp only [o_ar]
 have hB : bitsN x ≤ 64 := o_dp (by omega)
 refine G0 ?_; try with_reducible exact tt
 refine CallS.pu (o_dy x hx) (R0 ?_); try with_reducible exact tt
 exact Sub1.int (by omega)

def shrI (k : Nat) (A : List Nat) (i : Nat) : List Nat := (shrL k A).take i ++ A.drop i
end
end Go.Proofs.YtlelpbaeplcfiaaDoor.Am
namespace Go.Proofs.YtlelpbaeplcfiaaDoor.Am
section
open Go.RowKit
theorem o_e0 {x m : Nat} (h : x < 2 ^ (64 * m)) : size x ≤ m := by
 apply o_j (o_bo x)
 rw [o_bm, show (18446744073709551616 : Nat) = 2 ^ 64 by rfl, ← Nat.pow_mul]
 exact h

theorem o_e1 {x n m : Nat} (h : x < 2 ^ n) (hm : n ≤ 64 * m) : size x ≤ m :=
 o_e0 (Nat.lt_of_lt_of_le h (Nat.pow_le_pow_right (by omega) hm))
def plD (p : Pl) : D := .agg [.int .i64 p.x, .int .i64 p.shift, natW p.value, natW p.reply]
end
end Go.Proofs.YtlelpbaeplcfiaaDoor.Am
namespace Go.Proofs.YtlelpbaeplcfiaaDoor.Am
section
open Go.RowKit
structure WalkS where
 r0 : C
 r1 : C
 g : C
 os : List O
 call : Option (Nat × List Nat × Option Nat)
 o4 : O
 cy : X
 r5 : C
 r6 : C
 ids : Nat × Nat
 calm : Bool
 res : Nat
 nt : Nat
def callS (o : Oper) : Option (Nat × List Nat × Option Nat) := match o.op, o.guard with
 | .call c, none => match c.callee, c.args.toList with
  | .value (.tmp f), [.tmp x, .tmp y] => some (f, [x, y], o.dst)
  | _, _ => none
 | _, _ => none
def walkS (P : Program) (f : FuncId) : Option WalkS := match P.funcs[f]? with
 | some fn => match fn.body with
  | some (.seq r0 (.seq r1 (.block i0 (.loop (.seq g (.seq (.block i1 (.seq (.seq (.region _ ops false) (.cond cy .ret .skip)) r5)) r6)))))) => match ops.toList with
   | [o0, o1, o2, o3, o4] => some ⟨resolveC P r0, resolveC P r1, resolveC P g, [o0, o1, o2].map (resolveO P ops), callS o3, resolveO P ops o4, X.of cy, resolveC P r5, resolveC P r6, (i0, i1), [o0, o1, o2].all notDefer && [o4].all notDefer, fn.results.size, fn.ntmps⟩
   | _ => none
  | _ => none
 | none => none
structure AtS where
 a1 : C
 a2 : C
 a3 : C
 a4 : C
 g : X
 ps : List Nat
 asg : C
 bd : C
 a5 : List O
 id : Nat
 calm : Bool
 rs : List RV
 nt : Nat
def atS (P : Program) (f : FuncId) : Option AtS := match P.funcs[f]? with
 | some fn => match fn.body with
  | some (.seq a1 (.seq a2 (.seq a3 (.seq (.seq a4 (.block id (.rangeFunc g ps asg bd))) (.seq (.region _ ops false) .ret))))) =>
   some ⟨resolveC P a1, resolveC P a2, resolveC P a3, resolveC P a4, X.of g, ps.toList, resolveC P asg, resolveC P bd, ops.toList.map (resolveO P ops), id, Code.calm asg && (Code.calm bd && ops.toList.all notDefer), fn.results.toList.map (resolveR P), fn.ntmps⟩
  | _ => none
 | none => none
def C.l : C → C
 | .seq a _ => a
 | c => c
def C.r : C → C
 | .seq _ b => b
 | c => c
def C.b : C → C
 | .block _ a | .loop a => a
 | c => c
def C.os : C → List O
 | .reg _ l => l
 | _ => []
def cAsg : C := .seq (.reg false [⟨some 7, .mv (.t 24), none, []⟩]) (.reg false [⟨some 8, .new 27 [.int .i64 0, .int .i64 0, .nilsl, .nilsl], none, []⟩, ⟨none, .store 4 (.t 8) (.t 25), none, [0, 0]⟩])
def cBd : C := .block 2 (.seq (.reg false [⟨some 26, .load true 4 (.t 8), none, []⟩, ⟨none, .store 4 (.t 6) (.t 26), none, [0, 0]⟩])
 (.seq (.reg false [⟨some 27, .mv (.t 7), none, []⟩, ⟨some 28, .load false 1 (.t 3), none, []⟩, ⟨some 29, .bin .eql (.t 27) (.t 28), none, [0, 1]⟩]) (.cond (.t 29) (.exit 1) .skip)))
abbrev cWb : C := o_9p.r.r.b.b
abbrev kO (K : Nat) : Ob := ⟨3, [.d (.int .i64 K)]⟩
abbrev plO (c : List V) : Ob := ⟨27, c⟩

def Tr (i : Nat) (p : List D) : List V := [.junk, .junk, .junk, .p 0 0, .junk, .junk, .p 2 0] ++ List.replicate 17 .junk ++ [.d (.int .i64 i), .d (.agg p)] ++ List.replicate 5 .junk

def RoundR (K i : Nat) (p : List D) (m : Mem) (l : Nat) (rec : LoopState → Option Code → Loop) (e : Ending) (w' : World) : Prop :=
 ∃ m' : Mem, m'.w = w' ∧ m'.base ∧ m'.obj 0 (kO K) ∧ m'.obj 2 (plO (p.map .d)) ∧
  if i = K then e = .returned (.bool false) ∧ (m.at (m.w.putObj l (.loop (rec .done (some (.exit 1)))))).le m' (· < 3) else e = .returned (.bool true) ∧ m.le m' (· < 3)
end
end Go.Proofs.YtlelpbaeplcfiaaDoor.Am
namespace Go.Proofs.YtlelpbaeplcfiaaDoor.Am
section
open Go.RowKit
theorem Sat.put {m : Mem} {a : Act} {T : List V} {H : List (Option Ob)} (sat : Sat m a T H) (s : Nat) {x : V} {v : Value} (hv : x.rep m v) : Sat m (a.put (some s) v) (T.set s x) H := by
 refine ⟨sat.base, fun i => ?_, sat.obj, sat.inj, sat.top, by rw [o_4c]; simpa using sat.size, by rw [o_4d]; exact sat.defers⟩
 have h1 : T.set s x = putT T (some s) x := rfl
 rw [h1, o_4e, o_4b, sat.size]
 split
 ·exact hv
 ·exact sat.slots i

abbrev sO (s : Nat) : Ob := ⟨3, [.d (.int .i64 s)]⟩
def plC (p : Pl) : List D := [.int .i64 p.x, .int .i64 p.shift, natW p.value, natW p.reply]
abbrev fnY (l : Nat) : V := .fn (.yield l) []
def Tw0 (l : Nat) : List V := [fnY l, .p 3 0, .junk, .p 5 0] ++ List.replicate 19 .junk
def Tw (l i : Nat) : List V := [fnY l, .p 3 0, .junk, .p 5 0, .d (.int .i64 i)] ++ List.replicate 18 .junk
def Hw (K s i : Nat) (c : List V) : List (Option Ob) := [some (kO K), none, some (plO c), some (sO s), none, some (plO ((plC (placeY s i)).map .d))]
end
end Go.Proofs.YtlelpbaeplcfiaaDoor.Am
namespace Go.Proofs.YtlelpbaeplcfiaaDoor.Am
section
open Go.RowKit
def zD : List D := [.int .i64 0, .int .i64 0, .nilsl, .nilsl]
def SS : Nat → Bool := fun n => n == 0 || n == 2
end
end Go.Proofs.YtlelpbaeplcfiaaDoor.Am
namespace Go.Proofs.YtlelpbaeplcfiaaDoor.Am
section
open Go.RowKit
def atE (s k : Int) : Int := if 1 ≤ s ∧ s ≤ 5 then (if 0 ≤ k ∧ k ≤ 1023 then 0 else 2) else 10
def atP (s k : Int) : Pl := if atE s k = 0 then placeY s.toNat k.toNat else ⟨0, 0, 0, 0⟩

def Ta (s k : Nat) (x23 : V) : List V := [.d (.int .i64 s), .d (.int .i64 k), .junk, .p 0 0, .p 1 0, .d (.int .i64 0), .p 2 0] ++ List.replicate 16 .junk ++ [x23] ++ List.replicate 7 .junk
def Ta0 (s k : Nat) : List V := [.d (.int .i64 s), .d (.int .i64 k), .junk, .p 0 0, .p 1 0, .d (.int .i64 0)] ++ List.replicate 25 .junk
abbrev zO : Ob := plO (zD.map V.d)

def SC : Nat → Bool := fun n => n == 0 || n == 2 || n == 3

theorem Sub1.aggd {l r : List D} (h : Subs (l.map V.d) (r.map V.d)) : Sub1 (.d (.agg l)) (.d (.agg r)) := fun m v k => by
 rw [V.rep_d] at k ⊢
 unfold D.rep at k ⊢
 obtain ⟨vs, h1, h2, h3⟩ := k
 exact ⟨vs, h1, h2, V.reps_map_d.1 (h m vs (V.reps_map_d.2 h3))⟩
end
end Go.Proofs.YtlelpbaeplcfiaaDoor.Am
namespace Go.Proofs.YtlelpbaeplcfiaaDoor.Am
section
open Go.RowKit
end
end Go.Proofs.YtlelpbaeplcfiaaDoor.Am
namespace Go.Proofs.YtlelpbaeplcfiaaDoor.Am
section
open Go.RowKit
theorem o_e2 {x m : Nat} (h : x < 18446744073709551616 ^ m) : size x ≤ m := o_j (o_bo x) (by rwa [o_bm])

theorem o_e3 {a n u m : Nat} (h : a < 2 ^ n) (hm : n + u ≤ 64 * m) : size (a * 2 ^ u) ≤ m := by
 apply o_e2
 refine Nat.lt_of_lt_of_le (Nat.mul_lt_mul_of_pos_right h (Nat.two_pow_pos u)) ?_
 rw [← Nat.pow_add, show (18446744073709551616 : Nat) = 2 ^ 64 by rfl, ← Nat.pow_mul]
 exact Nat.pow_le_pow_right (by omega) hm

theorem o_e4 {d k : Nat} (hd : d ≤ 8) (hk : k ≤ 1023) : wrongZ d [(k : Int)] = 0 := by
 rw [wrongZ, if_pos (by omega), if_pos]
 simp [okK]; omega

theorem o_e5 (d k v : Nat) (hd : d ≤ 8) (hk : k ≤ 1023) (hv : partV d k = (v : Int)) (hv2 : v ≤ 255) :
  Eqn Tryd.prog o_74 [.d (.int .i64 d), .d (.int .i64 k)] [] (.tup [.d (.agg [natW ((2 ^ d + v) * 2 ^ (k / 2 ^ d) - 2 ^ d)]), .d (.int .i64 0)]) [] := by
 refine Eqn.pure o_76 (o_cb _ _) ?_
 simp only [o_75]
 refine G0 ?_; try with_reducible exact tt
 refine CallS.pf 1 1 ⟨3, _⟩ [.int .i64 k] (o_dm d k) (by first | rfl | (simp; done)) (R0 ?_); try with_reducible exact tt
 have hw := o_e4 hd hk
 refine AW.cond rfl (fun h => ?_) (fun h => ?_)
 ·simp [hw] at h
 have hp := o_dl d k (by omega) (by omega)
 rw [hv] at hp
 have hu : k / 2 ^ d ≤ k := Nat.div_le_self _ _
 generalize k / 2 ^ d = u at hp hu ⊢
 have h2 : 2 ^ d ≤ 256 := Nat.pow_le_pow_right (n := 2) (by omega) hd
 have h2' : 0 < 2 ^ d := Nat.two_pow_pos d
 have e0 : (2 : Int) ^ d = (2 ^ d : Nat) := by rw [Int.natCast_pow]; rfl
 have hx : (2 : Nat) ^ d ≤ (2 ^ d + v) * 2 ^ u := Nat.le_trans (Nat.le_add_right _ v) (Nat.le_mul_of_pos_right _ (Nat.two_pow_pos u))
 have hsz : size ((2 ^ d + v) * 2 ^ u) ≤ 17 := o_e3 (n := 10) (show 2 ^ d + v < 2 ^ 10 by omega) (by omega)
 generalize 2 ^ d = s at *
 have e1 : IntKind.i64.wrap (s : Int) = s := w64 (by omega) (by omega)
 have e2 : IntKind.i64.wrap ((s : Int) + v) = ((s + v : Nat) : Int) := w64 (by omega) (by omega)
 have e3 : IntKind.u64.wrap ((s + v : Nat) : Int) = ((s + v : Nat) : Int) := wu64 (by omega) (by omega)
 have e4 : IntKind.u64.wrap (s : Int) = s := wu64 (by omega) (by omega)
 have ht : s + v ≤ 511 := by omega
 generalize s + v = t at *
 refine G1 e0 ?_; try with_reducible exact tt
 refine CallS.pu (hp) (R1 (fs e0 (fs e1 (fs e2 e3))) ?_); try with_reducible exact tt
 refine CallS.pf 2 1 ⟨34, _⟩ [.int .u64 (t : Nat)] (o_bw [t] (o_cs (by omega)) (by simp)) (by first | rfl | (simp; done)) (R0 ?_); try with_reducible exact tt
 refine CallS.pu (o_cq t u (by have := o_cy (x := t) (by omega); omega) (by omega)) (R1 (fs e0 e4) ?_); try with_reducible exact tt
 refine CallS.pf 4 1 ⟨34, _⟩ [.int .u64 (s : Nat)] (o_bw [s] (o_cs (by omega)) (by simp)) (by first | rfl | (simp; done)) (R0 ?_); try with_reducible exact tt
 refine CallS.pu (o_ch (t * 2 ^ u) s (by omega) hx) (R0 ?_); try with_reducible exact tt

theorem o_e6 (d k : Nat) (hd : d ≤ 8) (hk : k ≤ 1023) (hu : k / 2 ^ d < 64) :
  Eqn Tryd.prog o_71 [.d (.int .i64 d), .d (.int .i64 k)] [] (.tup [.d (.agg [natW 1, .bool false, natW (2 ^ (k / 2 ^ d) - 1)]), .d (.int .i64 0)]) [] := by
 refine Eqn.pure o_73 (o_cb _ _) ?_
 simp only [o_72]
 refine G0 ?_; try with_reducible exact tt
 refine CallS.pf 1 1 ⟨3, _⟩ [.int .i64 k] (o_dm d k) (by first | rfl | (simp; done)) (R0 ?_); try with_reducible exact tt
 have hw := o_e4 hd hk
 refine AW.cond rfl (fun h => ?_) (fun h => ?_)
 ·simp [hw] at h
 have hp := o_dl d k (by omega) (by omega)
 generalize k / 2 ^ d = u at hp hu ⊢
 refine G0 ?_; try with_reducible exact tt
 refine CallS.pu (hp) (R0 ?_); try with_reducible exact tt
 refine CallS.pu (o_d6 u hu) (R0 ?_); try with_reducible exact tt

theorem o_e7 (d k : Int) : Eqn Tryd.prog o_77 [.d (.int .i64 d), .d (.int .i64 k)] [] (.d (.int .i64 (wrongZ d [k]))) [] := by
 refine Eqn.pure o_79 (o_5f _) ?_
 simp only [o_78]
 by_cases h0 : d < 0
 ·refine G1 h0 ?_; try with_reducible exact tt
  refine AW.cond rfl (fun h => ?_) (fun h => ?_)
  ·refine G0 ?_; try with_reducible exact tt
   refine Sub1.int ?_
   rw [wrongZ, if_neg (by omega)]
  ·simp [h0] at h
 by_cases h1 : 8 < d
 ·refine G1 (fs h0 h1) ?_; try with_reducible exact tt
  refine AW.cond rfl (fun h => ?_) (fun h => ?_)
  ·refine G0 ?_; try with_reducible exact tt
   refine Sub1.int ?_
   rw [wrongZ, if_neg (by omega)]
  ·simp [h0, h1] at h
 by_cases h2 : k < 0
 ·refine G1 (fs h0 (fs h1 h2)) ?_; try with_reducible exact tt
  refine AW.cond rfl (fun h => ?_) (fun h => ?_)
  ·simp [h0, h1] at h
  refine G1 (fs h0 (fs h1 h2)) ?_; try with_reducible exact tt
  refine AW.cond rfl (fun h => ?_) (fun h => ?_)
  ·refine G0 ?_; try with_reducible exact tt
   refine Sub1.int ?_
   rw [wrongZ, if_pos (by omega), if_neg]
   simp [okK]; omega
  ·simp [h2] at h
 by_cases h3 : 1023 < k
 ·refine G1 (fs h0 (fs h1 (fs h2 h3))) ?_; try with_reducible exact tt
  refine AW.cond rfl (fun h => ?_) (fun h => ?_)
  ·simp [h0, h1] at h
  refine G1 (fs h0 (fs h1 (fs h2 h3))) ?_; try with_reducible exact tt
  refine AW.cond rfl (fun h => ?_) (fun h => ?_)
  ·refine G0 ?_; try with_reducible exact tt
   refine Sub1.int ?_
   rw [wrongZ, if_pos (by omega), if_neg]
   simp [okK]; omega
  ·simp [h2, h3] at h
 refine G1 (fs h0 (fs h1 (fs h2 h3))) ?_; try with_reducible exact tt
 refine AW.cond rfl (fun h => ?_) (fun h => ?_)
 ·simp [h0, h1] at h
 refine G1 (fs h0 (fs h1 (fs h2 h3))) ?_; try with_reducible exact tt
 refine AW.cond rfl (fun h => ?_) (fun h => ?_)
 ·simp [h2, h3] at h
 refine G0 ?_; try with_reducible exact tt
 refine Sub1.int ?_
 rw [wrongZ, if_pos (by omega), if_pos]
 simp [okK]; omega

def p2 (n : Nat) : Nat := 2 ^ n
theorem o_e8 : p2 0 = 1 := rfl
theorem o_e9 (n : Nat) : p2 (n + 1) = 2 * p2 n := by rw [p2, p2, Nat.pow_succ, Nat.mul_comm]
theorem o_ea (n : Nat) : 0 < p2 n := Nat.two_pow_pos n
theorem o_eb {n m : Nat} (h : n ≤ m) : p2 n ≤ p2 m := Nat.pow_le_pow_right (by omega) h

theorem o_ec (d : Nat) (hd : d ≤ 60) : Eqn Tryd.prog o_94 [.d (.int .i64 d)] [] (.d (.int .i64 (p2 d))) [] := by
 refine Eqn.pure o_96 (o_5f _) ?_
 simp only [o_95]
 refine G0 ?_; try with_reducible exact tt
 refine AW.loopT (α := Nat) 0 (fun i => [(4, .d (.int .i64 (i : Int))), (3, .d (.int .i64 (p2 i)))]) (fun i => []) (fun i => i ≤ d) (fun i => d - i) 0 ?_ ?_ (Nat.zero_le _) ?_ ?_ ?_
 ·simp
 ·simp
 ·simp [o_e8]
 ·simp
 rintro i hi
 have hle : p2 i ≤ 2 ^ 60 := o_eb (m := 60) (by omega)
 simp
 by_cases h : i = d
 ·subst h
  refine G0 ?_; try with_reducible exact tt
  refine AW.cond rfl (fun h => ?_) (fun h => ?_)
  ·simp at h
  refine G0 ?_; try with_reducible exact tt
 ·have hlt : (i : Int) < d := by omega
  have hlt' : i < d := by omega
  have e1 : IntKind.i64.wrap (2 * (p2 i : Int)) = (p2 (i + 1) : Int) := by rw [o_e9]; exact w64 (by omega) (by omega)
  have e2 : IntKind.i64.wrap ((i : Int) + 1) = (i : Int) + 1 := w64 (by omega) (by omega)
  refine G1 (fs hlt hlt') ?_; try with_reducible exact tt
  refine AW.cond rfl (fun h => ?_) (fun h => ?_)
  ·refine G1 (fs e1 e2) ?_; try with_reducible exact tt
   exact ⟨i + 1, by omega, by omega, by simp, by simp⟩
  ·simp [hlt'] at h

theorem o_ed (d k : Nat) (hd : d ≤ 60) (hk : k ≤ 9223372036854775807) : Eqn Tryd.prog o_7m [.d (.int .i64 d), .d (.int .i64 k)] [] (.d (.int .i64 (k / p2 d : Nat))) [] := by
 refine Eqn.pure o_7o (o_5f _) ?_
 simp only [o_7n]
 have hp := o_ea d
 refine G0 ?_; try with_reducible exact tt
 refine CallS.pu (o_ec d hd) (R0 ?_); try with_reducible exact tt
 have h0 : ¬ p2 d = 0 := by omega
 have hle := Nat.div_le_self k (p2 d)
 have e : IntKind.i64.wrap ((k : Int) / p2 d) = (k : Int) / p2 d := by
  rw [← Int.natCast_ediv]
  generalize k / p2 d = q at *
  exact w64 (by omega) (by omega)
 simp [h0, e]
 all_goals (refine G0 ?_; try with_reducible exact tt)

def halfO (cs : List Bool) : Nat → Nat → Bool × Nat × Int
 | 0, i => (true, i, 0)
 | r + 1, i => if i < cs.length then (if cs.getD i false then halfO cs r (i + 1) else (false, i + 1, 0)) else (false, i, 8)
end
end Go.Proofs.YtlelpbaeplcfiaaDoor.Am
namespace Go.Proofs.YtlelpbaeplcfiaaDoor.Am
section
open Go.RowKit
def stepY (cs : List Bool) (s k : Int) : Bool × Int × Nat × Bool := if atE s k = 0 then halfR cs (atP s k).shift 0 false else (false, atE s k, 0, false)
def againE (s k j : Int) : Int := if atE s k = 0 then atE s j else atE s k
def againY (cs : List Bool) (s k j : Int) : Bool × Int × Nat × Bool := if againE s k j = 0 then halfR cs ((atP s k).shift - (atP s j).shift) 0 false else (false, againE s k j, 0, false)
end
end Go.Proofs.YtlelpbaeplcfiaaDoor.Am
namespace Go.Proofs.YtlelpbaeplcfiaaDoor.Am
section
open Go.RowKit
end
end Go.Proofs.YtlelpbaeplcfiaaDoor.Am
namespace Go.Proofs.YtlelpbaeplcfiaaDoor.Am
section
open Go.RowKit
def parD (k a w : Int) : D := .agg [.int .i64 k, .int .i64 a, .int .i64 w]
end
end Go.Proofs.YtlelpbaeplcfiaaDoor.Am
namespace Go.Proofs.YtlelpbaeplcfiaaDoor.Am
section
open Go.RowKit
end
end Go.Proofs.YtlelpbaeplcfiaaDoor.Am
namespace Go.Proofs.YtlelpbaeplcfiaaDoor.Am
section
open Go.RowKit
end
end Go.Proofs.YtlelpbaeplcfiaaDoor.Am
namespace Go.Proofs.YtlelpbaeplcfiaaDoor.Am
section
open Go.RowKit
def stepG (cs : List Bool) (d k : Int) (p : Nat) (dd : Bool) : Bool × Int × Nat × Bool := if wrongZ d [k] = 0 then halfR cs (k.toNat / 2 ^ d.toNat) p dd else (false, wrongZ d [k], p, dd)

def stepYG (cs : List Bool) (s k : Int) (q : Nat) (dd : Bool) : Bool × Int × Nat × Bool := if atE s k = 0 then halfR cs (atP s k).shift q dd else (false, atE s k, q, dd)
end
end Go.Proofs.YtlelpbaeplcfiaaDoor.Am
namespace Go.Proofs.YtlelpbaeplcfiaaDoor.Am
section
abbrev StepT := Nat → Nat → Bool → Bool × Int × Nat × Bool
def addL (st : StepT) (top : Nat) : Nat → Nat → Bool → Nat → Bool → Int × Nat × Bool × Nat × Bool
 | 0, x, f, p, d => (0, x, f, p, d)
 | n + 1, x, f, p, d =>
  if x = top then (0, x, true, p, d)
  else if (st x p d).2.1 = 0 then
   if f = true ∧ (if (st x p d).1 then x + 1 else x) = top then (0, top, f, (st x p d).2.2.1, (st x p d).2.2.2)
   else addL st top n (if (st x p d).1 then x + 1 else x) f (st x p d).2.2.1 (st x p d).2.2.2
  else ((st x p d).2.1, x, f, (st x p d).2.2.1, (st x p d).2.2.2)
end
end Go.Proofs.YtlelpbaeplcfiaaDoor.Am
namespace Go.Proofs.YtlelpbaeplcfiaaDoor.Am
section
open Go.RowKit
end
end Go.Proofs.YtlelpbaeplcfiaaDoor.Am
namespace Go.Proofs.YtlelpbaeplcfiaaDoor.Am
section
open Go.RowKit
def stOf (cs : List Bool) (k a : Int) : StepT := fun x p dd => if k = 1 then stepM cs a x p dd else if k = 2 then stepG cs a x p dd else stepYG cs a x p dd
def GoodS (k a w : Nat) : Prop := (k = 1 ∧ 1 ≤ a ∧ a ≤ 4 ∨ k = 2 ∧ a ≤ 1 ∨ k = 3 ∧ 1 ≤ a ∧ a ≤ 2) ∧ 1 ≤ w ∧ w ≤ 4
end
end Go.Proofs.YtlelpbaeplcfiaaDoor.Am
namespace Go.Proofs.YtlelpbaeplcfiaaDoor.Am
section
open Go.RowKit
abbrev AgT := Nat → Nat → Nat → Bool → Bool × Int × Nat × Bool
def agOf (cs : List Bool) (k a : Nat) : AgT := fun x r p dd => if k = 1 then powerR cs a (a + 1) (x - r) p dd else if k = 2 then halfR cs (x / 2 ^ a - r / 2 ^ a) p dd else halfR cs ((placeY a x).shift - (placeY a r).shift) p dd
end
end Go.Proofs.YtlelpbaeplcfiaaDoor.Am
namespace Go.Proofs.YtlelpbaeplcfiaaDoor.Am
section
open Go.RowKit
def mergeL (ag : AgT) (top : Nat) : Nat → Nat → Nat → Bool → Nat → Bool → Int × Nat × Bool × Nat × Bool
 | 0, _, x, f, p, d => (0, x, f, p, d)
 | n + 1, r, x, f, p, d =>
  if x = top then mergeL ag top n (r + 1) x true p d
  else if (ag x r p d).2.1 = 0 then mergeL ag top n (r + 1) (if (ag x r p d).1 then x + 1 else x) f (ag x r p d).2.2.1 (ag x r p d).2.2.2
  else ((ag x r p d).2.1, x, f, (ag x r p d).2.2.1, (ag x r p d).2.2.2)
end
end Go.Proofs.YtlelpbaeplcfiaaDoor.Am
namespace Go.Proofs.YtlelpbaeplcfiaaDoor.Am
section
open Go.RowKit
def outD (p : Nat) (R : Bool × Int × Nat × Bool) : D := .agg [.bool R.1, .int .i64 (R.2.2.1 - p : Nat), .int .i64 R.2.1]
end
end Go.Proofs.YtlelpbaeplcfiaaDoor.Am
namespace Go.Proofs.YtlelpbaeplcfiaaDoor.Am
section
open Go.RowKit
end
end Go.Proofs.YtlelpbaeplcfiaaDoor.Am
namespace Go.Proofs.YtlelpbaeplcfiaaDoor.Am
section
open Go.RowKit
structure Live (p : Nat) (R : Bool × Int × Nat × Bool) : Prop where
 err : R.2.1 = 0 ∨ R.2.1 = 8
 dead : R.2.2.2 = true ↔ R.2.1 ≠ 0
 no : R.2.1 ≠ 0 → R.1 = false
 le : p ≤ R.2.2.1

theorem Live.mono {p q : Nat} {R : Bool × Int × Nat × Bool} (h : Live q R) (hq : p ≤ q) : Live p R := ⟨h.err, h.dead, h.no, Nat.le_trans hq h.le⟩
theorem Live.ok {p : Nat} {R : Bool × Int × Nat × Bool} (h : Live p R) (h1 : R.2.1 = 0) : R.2.2.2 = false := by
 cases hd : R.2.2.2 with
 | false => rfl
 | true => exact absurd h1 (h.dead.1 hd)
end
end Go.Proofs.YtlelpbaeplcfiaaDoor.Am
namespace Go.Proofs.YtlelpbaeplcfiaaDoor.Am
section
open Go.RowKit
def halfD (e : Nat) : D := .agg [natW 1, .bool false, natW (2 ^ e - 1)]
def expOf (k a x : Nat) : Nat := if k = 2 then x / 2 ^ a else (placeY a x).shift
end
end Go.Proofs.YtlelpbaeplcfiaaDoor.Am
namespace Go.Proofs.YtlelpbaeplcfiaaDoor.Am
section
open Go.RowKit
end
end Go.Proofs.YtlelpbaeplcfiaaDoor.Am
namespace Go.Proofs.YtlelpbaeplcfiaaDoor.Am
section
open Go.RowKit
end
end Go.Proofs.YtlelpbaeplcfiaaDoor.Am
namespace Go.Proofs.YtlelpbaeplcfiaaDoor.Am
section
structure TR where
 e : Int
 y : Nat
 t : Nat
 f : Bool
 p : Nat
 d : Bool
end
end Go.Proofs.YtlelpbaeplcfiaaDoor.Am
namespace Go.Proofs.YtlelpbaeplcfiaaDoor.Am
section
open Go.RowKit
def binM (cs : List Bool) : Nat → Nat → Nat → Bool → Int × Nat × Nat × Bool
 | 0, c, p, d => (0, c, p, d)
 | n + 1, c, p, d => if flipE cs p d = 0 then binM cs n (if flipB cs p d then c + 1 else c) (flipP cs p d) (flipD cs p d) else (flipE cs p d, 0, flipP cs p d, flipD cs p d)
def thinM (cs : List Bool) (f : Bool) : Nat → Nat → Nat → Nat → Bool → TR
 | 0, y, t, p, d => ⟨0, y, t, f, p, d⟩
 | n + 1, y, t, p, d => if (binM cs y 0 p d).1 = 0 then thinM cs f n (binM cs y 0 p d).2.1 (t + 1) (binM cs y 0 p d).2.2.1 (binM cs y 0 p d).2.2.2 else ⟨(binM cs y 0 p d).1, y, t, f, (binM cs y 0 p d).2.2.1, (binM cs y 0 p d).2.2.2⟩
def downM (cs : List Bool) (most times : Nat) : Nat → Nat → Nat → Bool → Nat → Bool → TR
 | 0, y, t, f, p, d => ⟨0, y, t, f, p, d⟩
 | k + 1, y, t, f, p, d =>
  if most < y then
   if t = times then ⟨0, most, t, true, p, d⟩
   else if (thinM cs f 1 y t p d).e = 0 then downM cs most times k (thinM cs f 1 y t p d).y (thinM cs f 1 y t p d).t f (thinM cs f 1 y t p d).p (thinM cs f 1 y t p d).d
   else ⟨(thinM cs f 1 y t p d).e, y, t, f, (thinM cs f 1 y t p d).p, (thinM cs f 1 y t p d).d⟩
  else ⟨0, y, t, f, p, d⟩
def oneM (cs : List Bool) (most times y t : Nat) (f : Bool) (p : Nat) (d : Bool) : TR :=
 if (halfR cs t p d).1 then downM cs most times (times - t + 1) (y + 1) t f (halfR cs t p d).2.2.1 (halfR cs t p d).2.2.2
 else ⟨(halfR cs t p d).2.1, y, t, f, (halfR cs t p d).2.2.1, (halfR cs t p d).2.2.2⟩
def addTM (cs : List Bool) (most times : Nat) : Nat → Nat → Nat → Bool → Nat → Bool → TR
 | 0, y, t, f, p, d => ⟨0, y, t, f, p, d⟩
 | n + 1, y, t, f, p, d => if (oneM cs most times y t f p d).e = 0 then addTM cs most times n (oneM cs most times y t f p d).y (oneM cs most times y t f p d).t (oneM cs most times y t f p d).f (oneM cs most times y t f p d).p (oneM cs most times y t f p d).d else oneM cs most times y t f p d
def mergeTM (cs : List Bool) (most times y t : Nat) (f : Bool) (z u : Nat) (g : Bool) (p : Nat) (d : Bool) : TR :=
 let A := thinM cs f (u - t) y t p d
 if A.e = 0 then
  let B := thinM cs g (t - u) z u A.p A.d
  if B.e = 0 then downM cs most times (times - A.t + 1) (A.y + B.y) A.t (f || g) B.p B.d else B
 else A

def tsD (y t : Nat) (f : Bool) : D := .agg [.int .i64 y, .int .i64 t, .bool f]
end
end Go.Proofs.YtlelpbaeplcfiaaDoor.Am
namespace Go.Proofs.YtlelpbaeplcfiaaDoor.Am
section
open Go.RowKit
def tpD (a b : Int) : D := .agg [.int .i64 a, .int .i64 b]

def GoodT (a b : Nat) : Prop := 1 ≤ a ∧ a ≤ 1023 ∧ b ≤ 20
def WellT (a b y t : Nat) (f : Bool) : Prop := y ≤ a ∧ t ≤ b ∧ (f = true → t = b)
end
end Go.Proofs.YtlelpbaeplcfiaaDoor.Am
namespace Go.Proofs.YtlelpbaeplcfiaaDoor.Am
section
open Go.RowKit
end
end Go.Proofs.YtlelpbaeplcfiaaDoor.Am
namespace Go.Proofs.YtlelpbaeplcfiaaDoor.Am
section
open Go.RowKit
def GoodC (k a w : Nat) : Prop := (k = 1 ∧ 1 ≤ a ∧ a ≤ 4096 ∧ bitsN (a + 1) * (2 ^ w - 1) ≤ 8192 ∨ k = 2 ∧ a ≤ 8 ∨ k = 3 ∧ 1 ≤ a ∧ a ≤ 5) ∧ 1 ≤ w ∧ w ≤ 10
def GoodR (k a b : Nat) : Prop := k = 4 ∧ GoodT a b ∨ k ≠ 4 ∧ GoodC k a b
def WellR (k a b y t : Nat) (f : Bool) : Prop := k = 4 ∧ WellT a b y t f ∨ k ≠ 4 ∧ t = 0 ∧ y ≤ 2 ^ b - 1 ∧ (f = true → y = 2 ^ b - 1)
def addRM (cs : List Bool) (k a b n y t : Nat) (f : Bool) (p : Nat) (d : Bool) : TR :=
 if k = 4 then addTM cs a b n y t f p d
 else ⟨(addL (stOf cs k a) (2 ^ b - 1) n y f p d).1, (addL (stOf cs k a) (2 ^ b - 1) n y f p d).2.1, 0, (addL (stOf cs k a) (2 ^ b - 1) n y f p d).2.2.1, (addL (stOf cs k a) (2 ^ b - 1) n y f p d).2.2.2.1, (addL (stOf cs k a) (2 ^ b - 1) n y f p d).2.2.2.2⟩
def mergeRM (cs : List Bool) (k a b y t : Nat) (f : Bool) (z u : Nat) (g : Bool) (p : Nat) (d : Bool) : TR :=
 if k = 4 then mergeTM cs a b y t f z u g p d
 else ⟨(mergeL (agOf cs k a) (2 ^ b - 1) z 0 y f p d).1, (mergeL (agOf cs k a) (2 ^ b - 1) z 0 y f p d).2.1, 0, (mergeL (agOf cs k a) (2 ^ b - 1) z 0 y f p d).2.2.1 || g, (mergeL (agOf cs k a) (2 ^ b - 1) z 0 y f p d).2.2.2.1, (mergeL (agOf cs k a) (2 ^ b - 1) z 0 y f p d).2.2.2.2⟩
end
end Go.Proofs.YtlelpbaeplcfiaaDoor.Am
namespace Go.Proofs.YtlelpbaeplcfiaaDoor.Am
section
def b2n (b : Bool) : Nat := if b then 1 else 0
@[simp] theorem o_ee (b : Bool) : b2n b ≤ 1 := by cases b <;> decide
def numB : List Bool → Nat → Nat
 | [], n => n
 | b :: l, n => numB l (2 * n + b2n b)
theorem o_ef : ∀ (l : List Bool) (n : Nat), numB l n = n * 2 ^ l.length + numB l 0
 | [], n => by simp [numB]
 | b :: l, n => by
  rw [numB, o_ef l, numB, o_ef l (2 * 0 + b2n b), List.length_cons, Nat.pow_succ, Nat.add_mul, Nat.mul_zero, Nat.zero_add, ← Nat.add_assoc, Nat.mul_comm 2 n, Nat.mul_assoc, Nat.mul_comm 2]
theorem o_eg : ∀ l : List Bool, numB l 0 < 2 ^ l.length
 | [] => by simp [numB]
 | b :: l => by
  rw [numB, o_ef, List.length_cons, Nat.pow_succ]
  have := o_eg l
  have := o_ee b
  generalize 2 ^ l.length = v at *
  cases b <;> simp [b2n] <;> omega
def bitsW (n w : Nat) : List Bool := (List.range w).map fun i => decide (n / 2 ^ (w - 1 - i) % 2 = 1)
@[simp] theorem o_eh (n w : Nat) : (bitsW n w).length = w := by simp [bitsW]
theorem o_ei (n w : Nat) : bitsW n (w + 1) = bitsW (n / 2) w ++ [decide (n % 2 = 1)] := by
 simp only [bitsW, List.range_succ, List.map_append, List.map_cons, List.map_nil]
 congr 1
 ·apply List.map_congr_left
  intro i hi
  have := List.mem_range.1 hi
  rw [Nat.div_div_eq_div_mul, ← Nat.pow_succ', show w + 1 - 1 - i = (w - 1 - i).succ by omega]
 ·simp
def bit (bs : List Bool) (i : Nat) : Nat := b2n (bs.getD i false)
def byteAt (bs : List Bool) (i : Nat) : Nat := bit bs (8 * i) * 128 + bit bs (8 * i + 1) * 64 + bit bs (8 * i + 2) * 32 + bit bs (8 * i + 3) * 16 + bit bs (8 * i + 4) * 8 + bit bs (8 * i + 5) * 4 + bit bs (8 * i + 6) * 2 + bit bs (8 * i + 7)
def bytesOf (bs : List Bool) : List Nat := (List.range ((bs.length + 7) / 8)).map (byteAt bs)
@[simp] theorem o_ej (bs : List Bool) : (bytesOf bs).length = (bs.length + 7) / 8 := by simp [bytesOf]
theorem o_ek {bs : List Bool} {i : Nat} (h : bs.length ≤ i) : bit bs i = 0 := by
 unfold bit; rw [List.getD_eq_getElem?_getD, List.getElem?_eq_none h]; rfl
def bitsOf1 (x : Nat) : List Bool := bitsW x 8
def bitsOf : List Nat → List Bool
 | [] => []
 | x :: l => bitsOf1 x ++ bitsOf l
@[simp] theorem o_el : ∀ l : List Nat, (bitsOf l).length = 8 * l.length
 | [] => rfl
 | x :: l => by simp [bitsOf, bitsOf1, o_el l]; omega
theorem o_em : ∀ l k : List Nat, bitsOf (l ++ k) = bitsOf l ++ bitsOf k
 | [], k => rfl
 | x :: l, k => by simp [bitsOf, o_em l k]
end
end Go.Proofs.YtlelpbaeplcfiaaDoor.Am
namespace Go.Proofs.YtlelpbaeplcfiaaDoor.Am
section
open Go.RowKit
def u8s (ws : List Nat) : List V := ws.map fun x : Nat => V.d (.int .u8 x)
def BY (ws : List Nat) : D := .sl ws.length (ws.map fun x : Nat => .int .u8 x)
def wrB (bs : List Bool) : Ob := ⟨5, u8s (bytesOf bs)⟩
end
end Go.Proofs.YtlelpbaeplcfiaaDoor.Am
namespace Go.Proofs.YtlelpbaeplcfiaaDoor.Am
section
open Go.RowKit
def smallB (ws : List Nat) : Prop := ∀ x ∈ ws, x < 256
end
end Go.Proofs.YtlelpbaeplcfiaaDoor.Am
namespace Go.Proofs.YtlelpbaeplcfiaaDoor.Am
section
open Go.RowKit
def numAt (ws : List Nat) (a w : Nat) : Nat := numB (((bitsOf ws).drop a).take w) 0
end
end Go.Proofs.YtlelpbaeplcfiaaDoor.Am
namespace Go.Proofs.YtlelpbaeplcfiaaDoor.Am
section
open Go.RowKit
def wellTB (a b y t : Nat) (f : Bool) : Bool := decide (y ≤ a) && (decide (t ≤ b) && (!f || t == b))
def wellRB (k a b y t : Nat) (f : Bool) : Bool := if k = 4 then wellTB a b y t f else (t == 0) && (decide (y ≤ 2 ^ b - 1) && (!f || y == 2 ^ b - 1))
end
end Go.Proofs.YtlelpbaeplcfiaaDoor.Am
namespace Go.Proofs.YtlelpbaeplcfiaaDoor.Am
section
open Go.RowKit
def stR (R : TR) (y t : Nat) (f : Bool) : D := if R.e = 0 then tsD R.y R.t R.f else tsD y t f
end
end Go.Proofs.YtlelpbaeplcfiaaDoor.Am
namespace Go.Proofs.YtlelpbaeplcfiaaDoor.Am
section
open Go.RowKit
def kwR (k a b : Nat) : Nat := if k = 4 then bitsN a else b
def twR (k b : Nat) : Nat := if k = 4 then bitsN b else 0
def encR (k a b y t : Nat) (f : Bool) : List Bool := bitsW y (kwR k a b) ++ bitsW t (twR k b) ++ [f]
theorem o_en (k a b y t : Nat) (f : Bool) : (encR k a b y t f).length = kwR k a b + twR k b + 1 := by simp [encR]; omega

def readR (ws : List Nat) (k a b at_ : Nat) : (Nat × Nat × Bool) × Int × Nat :=
 if 8 * ws.length - at_ < kwR k a b + twR k b + 1 then ((0, 0, false), 5, at_)
 else if wellRB k a b (numAt ws at_ (kwR k a b)) (numAt ws (at_ + kwR k a b) (twR k b)) ((bitsOf ws).getD (at_ + kwR k a b + twR k b) false) then ((numAt ws at_ (kwR k a b), numAt ws (at_ + kwR k a b) (twR k b), (bitsOf ws).getD (at_ + kwR k a b + twR k b) false), 0, at_ + kwR k a b + twR k b + 1)
 else ((0, 0, false), 4, at_ + kwR k a b + twR k b + 1)
end
end Go.Proofs.YtlelpbaeplcfiaaDoor.Am
namespace Go.Proofs.YtlelpbaeplcfiaaDoor.Am
section
def ofB (f : Nat → Bool) : Nat → Nat
 | 0 => 0
 | n + 1 => ofB f n + (if f n then 2 ^ n else 0)
def bitX (w : Nat) (xs : List Nat) (k : Nat) : Bool := (xs.getD (k / w) 0).testBit (k % w)
def nwP (n w : Nat) : Nat := (n * w + 63) / 64
def wordsP (w : Nat) (xs : List Nat) : List Nat := (List.range (nwP xs.length w)).map fun j => ofB (fun b => bitX w xs (64 * j + b)) 64
@[simp] theorem o_eo (w : Nat) (xs : List Nat) : (wordsP w xs).length = nwP xs.length w := by simp [wordsP]
theorem o_ep {w : Nat} {xs : List Nat} {j : Nat} (h : j < nwP xs.length w) : (wordsP w xs).getD j 0 = ofB (fun b => bitX w xs (64 * j + b)) 64 := by
 unfold wordsP; rw [List.getD_eq_getElem?_getD, List.getElem?_map, List.getElem?_range h]; rfl
def smallP (w : Nat) (xs : List Nat) : Prop := ∀ x ∈ xs, x < 2 ^ w
def andN (x y : Nat) : Nat := x &&& (2 ^ 64 - 1 - y)
def setW1 (w : Nat) (x v r : Nat) : Nat := andN x ((2 ^ w - 1) * 2 ^ r % 2 ^ 64) ||| v * 2 ^ r % 2 ^ 64
def setW2 (w : Nat) (x v s : Nat) : Nat := andN x ((2 ^ w - 1) / 2 ^ s) ||| v / 2 ^ s
end
end Go.Proofs.YtlelpbaeplcfiaaDoor.Am
namespace Go.Proofs.YtlelpbaeplcfiaaDoor.Am
section
open Go.RowKit
def u64s (ws : List Nat) : List V := ws.map fun x : Nat => V.d (.int .u64 x)
@[simp] theorem o_eq (n : Nat) (ws : List Nat) : V.lowl n (u64s ws) = true := by induction ws <;> simp_all [u64s]
@[simp] theorem o_er (θ : Nat → Nat) (ws : List Nat) : V.rens θ (u64s ws) = u64s ws := by induction ws <;> simp_all [u64s]
def vecB (w : Nat) (xs : List Nat) : Ob := ⟨34, u64s (wordsP w xs)⟩

def vecD (w : Nat) (xs : List Nat) : List D := [.sl (nwP xs.length w) ((wordsP w xs).map fun x : Nat => D.int .u64 x), .int .i64 xs.length, .int .i64 w]
end
end Go.Proofs.YtlelpbaeplcfiaaDoor.Am
namespace Go.Proofs.YtlelpbaeplcfiaaDoor.Am
section
open Go.RowKit
end
end Go.Proofs.YtlelpbaeplcfiaaDoor.Am
namespace Go.Proofs.YtlelpbaeplcfiaaDoor.Am
section
open Go.RowKit
def encN (k a b y t : Nat) (f : Bool) : Nat := numB (encR k a b y t f) 0
def wdR (k a b : Nat) : Nat := kwR k a b + twR k b + 1
theorem o_es (k a b y t : Nat) (f : Bool) : encN k a b y t f < 2 ^ wdR k a b := by have := o_eg (encR k a b y t f); rw [o_en] at this; exact this
abbrev ST := Nat × Nat × Bool
def encs (k a b : Nat) (l : List ST) : List Nat := l.map fun s => encN k a b s.1 s.2.1 s.2.2
def wells (k a b : Nat) (l : List ST) : Prop := ∀ s ∈ l, WellR k a b s.1 s.2.1 s.2.2
@[simp] theorem o_et (k a b : Nat) (l : List ST) : (encs k a b l).length = l.length := by simp [encs]
theorem o_eu (k a b : Nat) (l : List ST) : smallP (wdR k a b) (encs k a b l) := by
 intro x hx
 obtain ⟨s, -, rfl⟩ := List.mem_map.1 hx
 exact o_es _ _ _ _ _ _
def arrB (k a b : Nat) (l : List ST) : Ob := vecB (wdR k a b) (encs k a b l)
end
end Go.Proofs.YtlelpbaeplcfiaaDoor.Am
namespace Go.Proofs.YtlelpbaeplcfiaaDoor.Am
section
open Go.RowKit
end
end Go.Proofs.YtlelpbaeplcfiaaDoor.Am
namespace Go.Proofs.YtlelpbaeplcfiaaDoor.Am
section
open Go.RowKit
end
end Go.Proofs.YtlelpbaeplcfiaaDoor.Am
namespace Go.Proofs.YtlelpbaeplcfiaaDoor.Am
section
open Go.RowKit
theorem o_ev (n s : Nat) (ds : List D) (l : List D) : V.frzs n s ds (l.map V.d) = l.map V.d := by
 rw [o_5a]; simp [V.frz]
end
end Go.Proofs.YtlelpbaeplcfiaaDoor.Am
namespace Go.Proofs.YtlelpbaeplcfiaaDoor.Am
section
open Go.RowKit
section
variable {P : Program} {L : Nat} {Q : Exit → List V → List (Option Ob) → Prop} {T : List V} {H : List (Option Ob)} {x : C}
def AWu (P : Program) (L : Nat) (x : C) (Q : Exit → List V → List (Option Ob) → Prop) : Nat → List V → List (Option Ob) → Prop
 | 0, _, _ => False
 | n + 1, T, H => AW P L x (thenQ (AWu P L x Q n) Q) T H
theorem AW.rounds (n : Nat) (h : AWu P L x Q n T H) : AW P L (.loop x) Q T H := by
 refine AW.loop (fun k T H => AWu P L x Q k T H) n h fun k T H hk => ?_
 cases k with
 | zero => exact hk.elim
 | succ k =>
  refine AW.mono hk fun e T' H' hq => ?_
  cases e <;> first | exact ⟨k, Nat.lt_succ_self k, hq⟩ | exact hq
theorem AWu.next {n : Nat} (h : AW P L x (thenQ (AWu P L x Q n) Q) T H) : AWu P L x Q (n + 1) T H := h
end
theorem EqnD.sub {P : Program} {f : FuncId} {args args' : List V} {Hs Hs' : List Ob} {X : V} {dead : List Nat} (E : EqnD P f args' Hs X Hs' dead) (h : Subs args args') : EqnD P f args Hs X Hs' dead :=
 ⟨E.len, E.old, E.lowx, E.lowo, fun m vs hb hv => E.run m vs hb (h m vs hv)⟩
end
end Go.Proofs.YtlelpbaeplcfiaaDoor.Am
namespace Go.Proofs.YtlelpbaeplcfiaaDoor.Am
section
open Go.RowKit
attribute [simp] o_ev o_62 o_63
@[simp] theorem o_ew (θ : Nat → Nat) : ∀ l k : List V, V.rens θ (l ++ k) = V.rens θ l ++ V.rens θ k
 | [], k => by simp [V.rens]
 | x :: l, k => by simp [V.rens, o_ew θ l k]
@[simp] theorem o_ex (n : Nat) : ∀ l k : List V, V.lowl n (l ++ k) = (V.lowl n l && V.lowl n k)
 | [], k => by simp [V.lowl]
 | x :: l, k => by simp [V.lowl, o_ex n l k, Bool.and_assoc]
def arrD (k a b : Nat) (l : List ST) : List D := [.ptr (vecD (wdR k a b) (encs k a b l)) 0, .int .i64 k, .int .i64 a, .int .i64 b]
end
end Go.Proofs.YtlelpbaeplcfiaaDoor.Am
namespace Go.Proofs.YtlelpbaeplcfiaaDoor.Am
section
open Go.RowKit
def dsD (l : List Nat) : List D := l.map fun x : Nat => D.int .i64 x
def nD (n : Nat) : D := .sl (sizeD n) (dsD (decs n))
theorem o_ey (l : List Nat) : (dsD l).length = l.length := by simp [dsD]
theorem o_ez (l : List Nat) (i : Nat) (h : i < l.length) : (dsD l)[i]? = some (.int .i64 (l.getD i 0 : Nat)) := by simp [dsD, h]
theorem o_f0 : decs 0 = [] := rfl
theorem o_f1 (l : List Nat) (hs : dsmall l) (hn : l.length ≤ 1000000) : Eqn Tryd.prog o_ak [.d (.sl l.length (dsD l))] [] (.d (nD (dval l))) [] := by
 refine Eqn.pure o_am Plain.ok ?_
 have hlen := o_ey l
 have hget := o_ez l
 have htk : ∀ i, i ≤ l.length → trimN l i = trimN l l.length → trimN l i = i → D.sl i ((dsD l).take i) = nD (dval l) := by
  intro i hi h1 h2
  have h3 := o_z l l.length (Nat.le_refl _)
  have h4 := o_5 l l.length (Nat.le_refl _)
  rw [← h1, h2, List.take_length] at h3
  rw [← h1, h2] at h4
  have h5 := o_1e (hs.take i) h4
  rw [h3] at h5
  unfold nD sizeD dsD
  rw [h5, List.length_take, Nat.min_eq_left hi, List.map_take]
 have htk' : ∀ i, i ≤ l.length → trimN l i = trimN l l.length → trimN l i = i → D.sl i ((l.map fun x : Nat => D.int .i64 x).take i) = nD (dval l) := htk
 simp only [o_al, dsD]
 clear hlen hget htk
 generalize nD (dval l) = N at *
 refine A00 ?_; try with_reducible exact tt
 refine AW.loopT (α := Nat) 0 (fun i => [(3, .d (.int .i64 (i : Nat)))]) (fun i => []) (fun i => i ≤ l.length ∧ trimN l i = trimN l l.length) (fun i => i) l.length ?_ ?_ ⟨Nat.le_refl _, rfl⟩ ?_ ?_ ?_
 ·simp
 ·simp
 ·simp
 ·simp
 rintro i ⟨hi, ht⟩
 simp
 rcases i with _ | m
 ·have hf := htk' 0 hi ht rfl
  refine A00 ?_; try with_reducible exact tt
  exact Sub1.of (by rw [← hf]; simp)
 ·have hm : m < l.length := by omega
  have hm2 : ¬ l.length ≤ m := by omega
  have hge : l.getD m 0 = l[m] := by simp [List.getD, hm]
  have ew : IntKind.i64.wrap (m : Int) = (m : Int) := w64 (by omega) (by omega)
  by_cases h0 : l[m] = 0
  ·have ht2 : trimN l m = trimN l l.length := by rw [← ht, trimN, if_pos (by rw [hge]; exact h0)]
   refine A10 (fs hm (fs hm2 (fs hi (fs h0 ew)))) ?_; try with_reducible exact tt
   exact ⟨m, ⟨by omega, ht2⟩, by omega, Sub1.refl _⟩
  ·have hf := htk' (m + 1) hi ht (by rw [trimN, if_neg (by rw [hge]; exact h0)])
   have h0' : ¬ ((l[m] : Nat) : Int) = 0 := by omega
   refine A10 (fs hm (fs hm2 (fs hi (fs h0 (fs h0' ew))))) ?_; try with_reducible exact tt
   exact Sub1.of (by rw [hf])
theorem o_f2 {m : Nat} (h : m ≠ 0) : decs m = (m % 10000) :: decs (m / 10000) := by
 obtain ⟨k, rfl⟩ : ∃ k, m = k + 1 := ⟨m - 1, by omega⟩
 conv => lhs; unfold decs
 rw [decsF, if_neg h]
 obtain ⟨h1, h2, h3⟩ := o_1a k ((k + 1) / 10000) (by omega)
 rw [o_11 h2 (o_1c _) h3 (o_1d _) (by rw [h1, o_1b])]
theorem o_f3 (l : List Nat) (x : Nat) : (dsD (l ++ [x])).map V.d = (dsD l).map V.d ++ [.d (.int .i64 x)] := by simp [dsD]

theorem o_f4 (n : Nat) (hn : n < 9223372036854775808) : Eqn Tryd.prog o_9j [.d (.int .i64 n)] [] (.d (nD n)) [] := by
 refine Eqn.pure o_9l Plain.ok ?_
 have hsz : (decs n).length ≤ 5 := o_12 (o_1d n) (by rw [o_1b]; omega)
 simp only [o_9k]
 refine A00 ?_; try with_reducible exact tt
 refine AW.loopG (α := List Nat × Nat) (fun s => setS (List.replicate 14 .junk) [(0, .d (.int .i64 (s.2 : Nat))), (3, if s.1 = [] then .d .nilsl else .own 0 1 s.1.length)]) (fun s => if s.1 = [] then [] else [some ⟨3, (dsD s.1).map .d⟩]) (fun s => s.1 ++ decs s.2 = decs n ∧ s.2 ≤ n) (fun s => s.2) ([], n) ?_ ⟨rfl, Nat.le_refl _⟩ ?_ ?_ ?_
 ·intro i hi; split <;> simp
 ·simp
 ·simp
 rintro ⟨pre, m⟩ ⟨hp, hm⟩
 simp only at hp hm
 have hpl : pre.length ≤ 5 := by rw [← hp, List.length_append] at hsz; omega
 by_cases h0 : m = 0
 ·subst h0
  rw [o_f0, List.append_nil] at hp
  subst hp
  by_cases hpe : decs n = []
  ·have hn0 := o_1f.1 hpe
   subst hn0
   rw [if_pos hpe, if_pos hpe]
   simp
   refine A00 ?_; try with_reducible exact tt
   exact Sub1.nil
  ·rw [if_neg hpe, if_neg hpe]
   have htk : (dsD (decs n)).take (decs n).length = dsD (decs n) := List.take_of_length_le (by rw [o_ey]; omega)
   simp
   refine AW.freeze 0 1 ⟨3, (dsD (decs n)).map .d⟩ (dsD (decs n)) (by simp) rfl ?_
   simp [frzH, htk]
   refine A00 ?_; try with_reducible exact tt
   exact Sub1.refl _
 ·have hst := o_f2 h0
  rw [hst, List.append_cons] at hp
  have hmp : 0 < m := by omega
  have hmp' : (0 : Int) < m := by omega
  have e1 : (m : Int).tmod 10000 = ((m % 10000 : Nat) : Int) := by rw [Int.tmod_eq_emod_of_nonneg (by omega)]; omega
  have e2 : (m : Int).tdiv 10000 = ((m / 10000 : Nat) : Int) := by rw [Int.tdiv_eq_ediv_of_nonneg (by omega)]; omega
  have hlt : m / 10000 < m := by omega
  have hle : m / 10000 ≤ n := by omega
  have hsn := o_f3 pre (m % 10000)
  clear hst
  generalize m % 10000 = x at *
  generalize m / 10000 = y at *
  by_cases hpe : pre = []
  ·subst hpe
   simp
   refine A10 (fs hmp (fs hmp' (fs e1 e2))) ?_; try with_reducible exact tt
   refine ⟨[x], y, 0, 1, by simp, ⟨hp, hle⟩, hlt, ?_, ?_⟩
   ·simp [swT, swH, sw, Ob.sw, V.ren, V.rens]
   ·simp [swT, swH, sw, Ob.sw, V.ren, V.rens, dsD]
  ·rw [if_neg hpe, if_neg hpe]
   simp
   have hlen := o_ey pre
   refine A10 (fs hmp (fs hmp' (fs e1 (fs e2 (fs hlen hpl))))) ?_; try with_reducible exact tt
   refine ⟨pre ++ [x], y, 0, 2, by simp, ⟨hp, hle⟩, hlt, ?_, ?_⟩
   ·simp [swT, swH, sw, Ob.sw, V.ren, V.rens]
   ·simp [swT, swH, sw, Ob.sw, V.ren, V.rens, hsn]
end
end Go.Proofs.YtlelpbaeplcfiaaDoor.Am
namespace Go.Proofs.YtlelpbaeplcfiaaDoor.Am
section
open Go.RowKit
theorem o_f5 (f : Nat → Nat) (i : Nat) : dsD ((List.range (i + 1)).map f) = dsD ((List.range i).map f) ++ [.int .i64 (f i)] := by
 rw [List.range_succ, List.map_append]; simp [dsD]
set_option maxHeartbeats 1000000 in
theorem o_f6 (a b : List Nat) (ha : dsmall a) (hb : dsmall b) (hla : a.length ≤ 100000) (hlb : b.length ≤ 100000) : Eqn Tryd.prog o_9m [.d (.sl a.length (dsD a)), .d (.sl b.length (dsD b))] [] (.d (nD (dval a + dval b))) [] := by
 refine Eqn.pure o_9o Plain.ok ?_
 obtain ⟨F, hF⟩ : ∃ F : Nat → List D, F = fun i => dsD ((List.range i).map (addD a b)) := ⟨_, rfl⟩
 have hFl : ∀ i, (F i).length = i := by intro i; rw [hF]; simp [dsD]
 have hFs : ∀ i, F (i + 1) = F i ++ [.int .i64 (addD a b i)] := by intro i; rw [hF]; exact o_f5 _ i
 have hF0 : F 0 = [] := by rw [hF]; rfl
 have htr : ∀ i, i ≤ 200001 → Eqn Tryd.prog o_ak [.d (.sl i (F i))] [] (.d (nD (dval ((List.range i).map (addD a b))))) [] := by
  intro i hi
  have := o_f1 ((List.range i).map (addD a b)) (o_17 (o_18 a b) i) (by simp; omega)
  rw [hF]
  simpa using this
 have hcl := o_15 ha hb
 have hval := o_16 a b
 clear hF
 simp only [o_9n, dsD]
 refine A00 ?_; try with_reducible exact tt
 refine AW.loopG (α := Nat) (fun i => setS (List.replicate 53 .junk) [(0, .d (.sl a.length (a.map fun x : Nat => D.int .i64 x))), (1, .d (.sl b.length (b.map fun x : Nat => D.int .i64 x))), (5, if i = 0 then .d .nilsl else .own 0 1 i), (6, .d (.int .i64 (carryD a b i : Nat))), (7, .d (.int .i64 (i : Nat)))]) (fun i => if i = 0 then [] else [some ⟨3, (F i).map .d⟩]) (fun i => i ≤ max a.length b.length + 1) (fun i => max a.length b.length + 1 - i) 0 ?_ (Nat.zero_le _) ?_ ?_ ?_
 ·intro i hi; split <;> simp
 ·simp [carryD]
 ·simp
 rintro i hi
 have hc1 := hcl i
 have hqb := hcl (i + 1)
 have hsn := hFs i
 have hqd : carryD a b (i + 1) = (a.getD i 0 + b.getD i 0 + carryD a b i) / 10000 := rfl
 have hrd : addD a b i = (a.getD i 0 + b.getD i 0 + carryD a b i) % 10000 := rfl
 have g1 := ha.getD i
 have g2 := hb.getD i
 have ew : IntKind.i64.wrap ((i : Int) + 1) = (i : Int) + 1 := w64 (by omega) (by omega)
 have e3 : ((a.getD i 0 + b.getD i 0 + carryD a b i : Nat) : Int).tmod 10000 = (addD a b i : Int) := by rw [Int.tmod_eq_emod_of_nonneg (by omega), hrd]; omega
 have e4 : ((a.getD i 0 + b.getD i 0 + carryD a b i : Nat) : Int).tdiv 10000 = (carryD a b (i + 1) : Int) := by rw [Int.tdiv_eq_ediv_of_nonneg (by omega), hqd]; omega
 by_cases pa : i < a.length
 ·have ga : a[i] = a.getD i 0 := by simp [List.getD, pa]
  by_cases pb : i < b.length
  ·have gb : b[i] = b.getD i 0 := by simp [List.getD, pb]
   have e1 : IntKind.i64.wrap ((carryD a b i : Int) + (a.getD i 0 : Nat)) = (carryD a b i : Int) + (a.getD i 0 : Nat) := w64 (by omega) (by omega)
   have e2 : IntKind.i64.wrap ((carryD a b i : Int) + (a.getD i 0 : Nat) + (b.getD i 0 : Nat)) = ((a.getD i 0 + b.getD i 0 + carryD a b i : Nat) : Int) := by rw [w64 (by omega) (by omega)]; omega
   clear hqd hrd
   generalize a.getD i 0 + b.getD i 0 + carryD a b i = s at *
   generalize a.getD i 0 = ai at *
   generalize b.getD i 0 = bi at *
   have hii : (i : Int) < a.length := by omega
   have hij : (i : Int) < b.length := by omega
   have hl := hFl i
   clear hval htr
   generalize carryD a b i = c at *
   generalize hq : carryD a b (i + 1) = q at *
   have e5 : IntKind.i64.wrap (q : Int) = (q : Int) := w64 (by omega) (by omega)
   generalize addD a b i = r at *
   by_cases hi0 : i = 0
   ·rw [if_pos hi0, if_pos hi0]
    rw [hi0] at hsn
    rw [hF0] at hsn
    have hq1 : carryD a b 1 = q := by rw [← hq, hi0]
    simp
    refine A10 (fs pa (fs pb (fs hii (fs hij (fs ga (fs gb (fs e1 (fs e2 (fs e3 (fs e4 (fs e5 (fs ew hl)))))))))))) ?_; try with_reducible exact tt
    refine ⟨i + 1, 0, 1, by simp, by omega, by omega, ?_, ?_⟩
    ·simp [swT, swH, sw, Ob.sw, V.ren, V.rens, hi0, hq1]
    ·simp [swT, swH, sw, Ob.sw, V.ren, V.rens, hi0, hsn]
   ·rw [if_neg hi0, if_neg hi0]
    simp
    refine A10 (fs pa (fs pb (fs hii (fs hij (fs ga (fs gb (fs e1 (fs e2 (fs e3 (fs e4 (fs e5 (fs ew hl)))))))))))) ?_; try with_reducible exact tt
    refine ⟨i + 1, 0, 2, by simp, by omega, by omega, ?_, ?_⟩
    ·simp [swT, swH, sw, Ob.sw, V.ren, V.rens, hq]
    ·simp [swT, swH, sw, Ob.sw, V.ren, V.rens, hsn]
  ·have gb : b.getD i 0 = 0 := by simp [List.getD, List.getElem?_eq_none (show b.length ≤ i by omega)]
   have e1 : IntKind.i64.wrap ((carryD a b i : Int) + (a.getD i 0 : Nat)) = ((a.getD i 0 + b.getD i 0 + carryD a b i : Nat) : Int) := by rw [w64 (by omega) (by omega)]; omega
   clear hqd hrd
   generalize a.getD i 0 + b.getD i 0 + carryD a b i = s at *
   generalize a.getD i 0 = ai at *
   generalize b.getD i 0 = bi at *
   have hii : (i : Int) < a.length := by omega
   have hij : ¬ (i : Int) < b.length := by omega
   have hl := hFl i
   clear hval htr
   generalize carryD a b i = c at *
   generalize hq : carryD a b (i + 1) = q at *
   have e5 : IntKind.i64.wrap (q : Int) = (q : Int) := w64 (by omega) (by omega)
   generalize addD a b i = r at *
   by_cases hi0 : i = 0
   ·rw [if_pos hi0, if_pos hi0]
    rw [hi0] at hsn
    rw [hF0] at hsn
    have hq1 : carryD a b 1 = q := by rw [← hq, hi0]
    simp
    refine A10 (fs pa (fs pb (fs hii (fs hij (fs ga (fs e1 (fs e3 (fs e4 (fs e5 (fs ew hl)))))))))) ?_; try with_reducible exact tt
    refine ⟨i + 1, 0, 1, by simp, by omega, by omega, ?_, ?_⟩
    ·simp [swT, swH, sw, Ob.sw, V.ren, V.rens, hi0, hq1]
    ·simp [swT, swH, sw, Ob.sw, V.ren, V.rens, hi0, hsn]
   ·rw [if_neg hi0, if_neg hi0]
    simp
    refine A10 (fs pa (fs pb (fs hii (fs hij (fs ga (fs e1 (fs e3 (fs e4 (fs e5 (fs ew hl)))))))))) ?_; try with_reducible exact tt
    refine ⟨i + 1, 0, 2, by simp, by omega, by omega, ?_, ?_⟩
    ·simp [swT, swH, sw, Ob.sw, V.ren, V.rens, hq]
    ·simp [swT, swH, sw, Ob.sw, V.ren, V.rens, hsn]
 ·have ga : a.getD i 0 = 0 := by simp [List.getD, List.getElem?_eq_none (show a.length ≤ i by omega)]
  have hii : ¬ (i : Int) < a.length := by omega
  by_cases pb : i < b.length
  ·have gb : b[i] = b.getD i 0 := by simp [List.getD, pb]
   have e1 : IntKind.i64.wrap ((carryD a b i : Int) + (b.getD i 0 : Nat)) = ((a.getD i 0 + b.getD i 0 + carryD a b i : Nat) : Int) := by rw [w64 (by omega) (by omega)]; omega
   clear hqd hrd
   generalize a.getD i 0 + b.getD i 0 + carryD a b i = s at *
   generalize a.getD i 0 = ai at *
   generalize b.getD i 0 = bi at *
   have hij : (i : Int) < b.length := by omega
   have hl := hFl i
   clear hval htr
   generalize carryD a b i = c at *
   generalize hq : carryD a b (i + 1) = q at *
   have e5 : IntKind.i64.wrap (q : Int) = (q : Int) := w64 (by omega) (by omega)
   generalize addD a b i = r at *
   by_cases hi0 : i = 0
   ·rw [if_pos hi0, if_pos hi0]
    rw [hi0] at hsn
    rw [hF0] at hsn
    have hq1 : carryD a b 1 = q := by rw [← hq, hi0]
    simp
    refine A10 (fs pa (fs pb (fs hii (fs hij (fs gb (fs e1 (fs e3 (fs e4 (fs e5 (fs ew hl)))))))))) ?_; try with_reducible exact tt
    refine ⟨i + 1, 0, 1, by simp, by omega, by omega, ?_, ?_⟩
    ·simp [swT, swH, sw, Ob.sw, V.ren, V.rens, hi0, hq1]
    ·simp [swT, swH, sw, Ob.sw, V.ren, V.rens, hi0, hsn]
   ·rw [if_neg hi0, if_neg hi0]
    simp
    refine A10 (fs pa (fs pb (fs hii (fs hij (fs gb (fs e1 (fs e3 (fs e4 (fs e5 (fs ew hl)))))))))) ?_; try with_reducible exact tt
    refine ⟨i + 1, 0, 2, by simp, by omega, by omega, ?_, ?_⟩
    ·simp [swT, swH, sw, Ob.sw, V.ren, V.rens, hq]
    ·simp [swT, swH, sw, Ob.sw, V.ren, V.rens, hsn]
  ·have gb : b.getD i 0 = 0 := by simp [List.getD, List.getElem?_eq_none (show b.length ≤ i by omega)]
   have hij : ¬ (i : Int) < b.length := by omega
   simp only [ga, gb, Nat.zero_add] at e3 e4 hqd
   by_cases hc0 : 0 < carryD a b i
   ·have hc0' : (0 : Int) < carryD a b i := by omega
    have hlt : i < max a.length b.length + 1 := by
     rcases Nat.lt_or_ge i (max a.length b.length + 1) with h | h
     ·exact h
     ·exfalso
      obtain ⟨j, rfl⟩ : ∃ j, i = j + 1 := ⟨i - 1, by omega⟩
      have h1 := hcl j
      have h2 : carryD a b (j + 1) = (a.getD j 0 + b.getD j 0 + carryD a b j) / 10000 := rfl
      have h3 : a.getD j 0 = 0 := by simp [List.getD, List.getElem?_eq_none (show a.length ≤ j by omega)]
      have h4 : b.getD j 0 = 0 := by simp [List.getD, List.getElem?_eq_none (show b.length ≤ j by omega)]
      omega
    clear hqd hrd
    have hl := hFl i
    clear hval htr
    generalize carryD a b i = c at *
    generalize hq : carryD a b (i + 1) = q at *
    have e5 : IntKind.i64.wrap (q : Int) = (q : Int) := w64 (by omega) (by omega)
    generalize addD a b i = r at *
    by_cases hi0 : i = 0
    ·rw [if_pos hi0, if_pos hi0]
     rw [hi0] at hsn
     rw [hF0] at hsn
     have hq1 : carryD a b 1 = q := by rw [← hq, hi0]
     simp
     refine A10 (fs pa (fs pb (fs hii (fs hij (fs hc0 (fs hc0' (fs e3 (fs e4 (fs e5 (fs ew hl)))))))))) ?_; try with_reducible exact tt
     refine ⟨i + 1, 0, 1, by simp, by omega, by omega, ?_, ?_⟩
     ·simp [swT, swH, sw, Ob.sw, V.ren, V.rens, hi0, hq1]
     ·simp [swT, swH, sw, Ob.sw, V.ren, V.rens, hi0, hsn]
    ·rw [if_neg hi0, if_neg hi0]
     simp
     refine A10 (fs pa (fs pb (fs hii (fs hij (fs hc0 (fs hc0' (fs e3 (fs e4 (fs e5 (fs ew hl)))))))))) ?_; try with_reducible exact tt
     refine ⟨i + 1, 0, 2, by simp, by omega, by omega, ?_, ?_⟩
     ·simp [swT, swH, sw, Ob.sw, V.ren, V.rens, hq]
     ·simp [swT, swH, sw, Ob.sw, V.ren, V.rens, hsn]
   ·have hc0' : ¬ (0 : Int) < carryD a b i := by omega
    have hcz : carryD a b i = 0 := by omega
    have hv := hval i
    rw [hcz, Nat.mul_zero, Nat.add_zero, List.take_of_length_le (by omega), List.take_of_length_le (by omega)] at hv
    have ht := htr i (by omega)
    rw [hv] at ht
    clear e3 e4 hqd hrd hval htr
    generalize carryD a b i = c at *
    by_cases hi0 : i = 0
    ·rw [if_pos hi0, if_pos hi0]
     subst hi0
     rw [hF0] at ht
     replace ht : Eqn Tryd.prog o_ak [.d .nilsl] [] (.d (nD (dval a + dval b))) [] := ht.sub (Subs.cons Sub1.nil (Subs.refl _))
     simp
     refine A11 (fs pa (fs pb (fs hii (fs hij (fs hc0 hc0'))))) ht ?_; try with_reducible exact tt
    ·rw [if_neg hi0, if_neg hi0]
     have htk : (F i).take i = F i := List.take_of_length_le (by rw [hFl]; exact Nat.le_refl _)
     simp
     refine AW.freeze 0 1 ⟨3, (F i).map .d⟩ (F i) (by simp) rfl ?_
     simp [frzH, htk]
     refine A11 (fs pa (fs pb (fs hii (fs hij (fs hc0 hc0'))))) ht ?_; try with_reducible exact tt
theorem o_f7 (x y : Nat) (hx : sizeD x ≤ 100000) (hy : sizeD y ≤ 100000) : Eqn Tryd.prog o_9m [.d (nD x), .d (nD y)] [] (.d (nD (x + y))) [] := by
 have := o_f6 (decs x) (decs y) (o_1c x) (o_1c y) hx hy
 rwa [o_1b, o_1b] at this
end
end Go.Proofs.YtlelpbaeplcfiaaDoor.Am
namespace Go.Proofs.YtlelpbaeplcfiaaDoor.Am
section
open Go.RowKit
end
end Go.Proofs.YtlelpbaeplcfiaaDoor.Am
namespace Go.Proofs.YtlelpbaeplcfiaaDoor.Am
section
def padN : Nat → Nat → List Nat
 | 0, _ => []
 | w + 1, n => padN w (n / 10) ++ [48 + n % 10]
theorem o_f8 : ∀ w n, (padN w n).length = w
 | 0, _ => rfl
 | w + 1, n => by rw [padN, List.length_append, o_f8 w]; rfl
theorem o_f9 (a : Nat) : ∀ b n, padN (a + b) n = padN a (n / 10 ^ b) ++ padN b n
 | 0, n => by simp [padN]
 | b + 1, n => by
  rw [← Nat.add_assoc, padN, padN, o_f9 a b, Nat.div_div_eq_div_mul, Nat.pow_succ, Nat.mul_comm 10, List.append_assoc]
theorem o_fa (u : Nat) : padN 4 u = [48 + u / 1000 % 10, 48 + u / 100 % 10, 48 + u / 10 % 10, 48 + u % 10] := by
 simp [padN, Nat.div_div_eq_div_mul]
theorem o_fb (u : Nat) : padN 2 u = [48 + u / 10 % 10, 48 + u % 10] := by simp [padN]
theorem o_fc : ∀ w, padN w 0 = List.replicate w 48
 | 0 => rfl
 | w + 1 => by rw [padN, Nat.zero_div, o_fc w, ← List.replicate_succ']
theorem o_fd (a b n : Nat) (h : n < 10 ^ b) : padN (a + b) n = List.replicate a 48 ++ padN b n := by
 rw [o_f9, Nat.div_eq_of_lt h, o_fc]
theorem o_fe : ∀ w n, padN w (n % 10 ^ w) = padN w n
 | 0, _ => rfl
 | w + 1, n => by
  rw [padN, padN]
  have e1 : n % 10 ^ (w + 1) / 10 = n / 10 % 10 ^ w := by rw [Nat.pow_succ, Nat.mul_comm, Nat.mod_mul_right_div_self]
  have e2 : n % 10 ^ (w + 1) % 10 = n % 10 := by rw [Nat.pow_succ, Nat.mul_comm, Nat.mod_mul_right_mod]
  rw [e1, e2, o_fe w]
def ndig (n : Nat) : Nat := if n < 10 then 1 else ndig (n / 10) + 1
termination_by n
decreasing_by omega
theorem o_ff : ∀ (k n : Nat), 10 ^ k ≤ n → n < 10 ^ (k + 1) → ndig n = k + 1
 | 0, n, _, h2 => by rw [ndig, if_pos (by simpa using h2)]
 | k + 1, n, h1, h2 => by
  have h10 : 10 ≤ n := Nat.le_trans (by rw [Nat.pow_succ]; have : 0 < 10 ^ k := Nat.pow_pos (by decide); omega) h1
  rw [ndig, if_neg (by omega), o_ff k (n / 10) (by rw [Nat.pow_succ] at h1; omega) (by rw [Nat.pow_succ] at h2; omega)]
theorem o_fg (n : Nat) : 0 < ndig n := by rw [ndig]; split <;> omega
theorem o_fh : ∀ n : Nat, n < 10 ^ ndig n := by
 intro n
 induction n using Nat.strongRecOn with
 | _ n ih =>
  rw [ndig]
  split
  ·simpa using ‹n < 10›
  ·have := ih (n / 10) (by omega)
   rw [Nat.pow_succ]; omega
theorem o_fi : ∀ (n k : Nat), n < 10 ^ k → 0 < k → ndig n ≤ k := by
 intro n
 induction n using Nat.strongRecOn with
 | _ n ih =>
  intro k h hk
  rw [ndig]
  split
  ·exact hk
  ·obtain ⟨j, rfl⟩ : ∃ j, k = j + 1 := ⟨k - 1, by omega⟩
   rcases Nat.eq_zero_or_pos j with rfl | hj
   ·simp at h; omega
   ·have := ih (n / 10) (by omega) j (by rw [Nat.pow_succ] at h; omega) hj
    omega
theorem o_fj : ∀ (k n : Nat), 0 < n / 10 ^ k → ndig n = ndig (n / 10 ^ k) + k
 | 0, n, _ => by simp
 | k + 1, n, h => by
  have h1 : n / 10 ^ (k + 1) = n / 10 / 10 ^ k := by rw [Nat.pow_succ, Nat.mul_comm, Nat.div_div_eq_div_mul]
  have h2 : 10 ≤ n := by
   rcases Nat.lt_or_ge n 10 with h3 | h3
   ·rw [h1, show n / 10 = 0 by omega, Nat.zero_div] at h; omega
   ·exact h3
  rw [ndig, if_neg (by omega), o_fj k (n / 10) (by rw [← h1]; exact h), h1]; omega
def decN (n : Nat) : List Nat := padN (ndig n) n
theorem o_fk (k n : Nat) (h : 0 < n / 10 ^ k) : decN n = decN (n / 10 ^ k) ++ padN k n := by
 rw [decN, o_fj k n h, o_f9, decN]
theorem o_fl (n k : Nat) (h : n < 10 ^ k) (hk : 0 < k) : List.replicate (k - (decN n).length) 48 ++ decN n = padN k n := by
 have h1 := o_fi n k h hk
 rw [decN, o_f8, ← o_fd _ _ _ (o_fh n), show k - ndig n + ndig n = k by omega]
def bst (l : List Nat) : ByteArray := ⟨(l.map UInt8.ofNat).toArray⟩
def txt (n : Nat) : ByteArray := bst (decN n)
theorem o_fm (a b : List Nat) : bst a ++ bst b = bst (a ++ b) := by
 unfold bst
 apply ByteArray.ext
 rw [ByteArray.data_append]
 simp
@[simp] theorem o_fn (l : List Nat) : (bst l).size = l.length := by
 show ((l.map UInt8.ofNat).toArray).size = _
 simp
theorem o_fo : bst [] = ⟨#[]⟩ := rfl
theorem o_fp (n : Nat) : (decN n).length = ndig n := o_f8 _ _
theorem o_fq (n b : Nat) (h0 : 2 ^ (b - 1) ≤ n) (h1 : n < 2 ^ b) (hb : 0 < b) (hb2 : b ≤ 64) : b * 78913 / 262144 ≤ 19 ∧ ndig n = b * 78913 / 262144 + if 10 ^ (b * 78913 / 262144) ≤ n then 1 else 0 := by
 have key : ∀ b ∈ List.range 65, b * 78913 / 262144 ≤ 19 ∧ 2 ^ b ≤ 10 ^ (b * 78913 / 262144 + 1) ∧ (b * 78913 / 262144 = 0 ∨ 10 ^ (b * 78913 / 262144 - 1) ≤ 2 ^ (b - 1)) := by decide
 obtain ⟨k1, k2, k3⟩ := key b (by simp; omega)
 refine ⟨k1, ?_⟩
 generalize b * 78913 / 262144 = k at *
 by_cases h : 10 ^ k ≤ n
 ·rw [if_pos h, o_ff k n h (Nat.lt_of_lt_of_le h1 k2)]
 ·rw [if_neg h]
  rcases k3 with k3 | k3
  ·subst k3
   have : 0 < 2 ^ (b - 1) := Nat.pow_pos (by decide)
   simp at h; omega
  ·have hk : 0 < k := by
    rcases Nat.eq_zero_or_pos k with rfl | hk
    ·have : 0 < 2 ^ (b - 1) := Nat.pow_pos (by decide)
     simp at h; omega
    ·exact hk
   obtain ⟨j, rfl⟩ : ∃ j, k = j + 1 := ⟨k - 1, by omega⟩
   rw [o_ff j n (by simpa using Nat.le_trans k3 h0) (by omega)]
theorem o_fr (A R : List Nat) (m x : Nat) : (A ++ (List.replicate (m + 1) 0 ++ R)).set (A.length + m) x = A ++ (List.replicate m 0 ++ x :: R) := by
 rw [List.set_append_right _ _ (by omega), Nat.add_sub_cancel_left, List.set_append_left _ _ (by simp), List.replicate_succ', List.set_append_right _ _ (by simp)]
 simp
end
end Go.Proofs.YtlelpbaeplcfiaaDoor.Am
