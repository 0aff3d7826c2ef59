/- Parts of the proof: CodeD, WordsM, Nat1, Nat2, AmUn, AmEv, EvN, AmLB, AmCu, SkA, SkB, SkC, SkD, SkE, SkF, SkG, SkH, AmLaw, AmTT, TabL, AmLaw2, AmLaw3, SkL. -/
import Derived.Test.YtpobgdipcbglcaaGreatDoorPb
set_option linter.unusedVariables false
set_option linter.unusedSimpArgs false
set_option maxRecDepth 100000
namespace Go.Proofs.YtpobgdipcbglcaaGreatDoor.Am
section
open Go.Proofs.YtpobgdipcbglcaaGreatDoor.Am
theorem mix:Tryz.prog.follows .mixedOrders=true:=by kernel_rfl
@[simp] def om_ (d s:Nat) (l:List Nat):O:=⟨some d,.mv (.t s),none,l⟩
@[simp] def oo_ (d:Nat) (a:A) (l:List Nat):O:=⟨some d,a,none,l⟩
@[simp] def og_ (d:Nat) (a:A) (s:Nat) (b:Bool) (l:List Nat):O:=⟨some d,a,some (s,b),l⟩
@[simp] def on_ (a:A) (l:List Nat):O:=⟨none,a,none,l⟩

abbrev o_6c:FuncId:=4
def o_6d:C:=(.seq (.reg false [oo_ 2 (.mv (.d (.bool false))) []]) (.seq (.seq (.reg false [oo_ 17 (.call 11 []) [],oo_ 18 (.un .not (.t 17)) [0]]) (.cond (.t 18) (.seq (.reg false [oo_ 2 (.mv (.d (.bool false))) []]) .ret) .skip))
 (.seq (.reg false [oo_ 19 (.call 12 [(.d .nilsl)]) [],om_ 3 19 [0,0,0]]) (.seq (.reg false [oo_ 4 (.new 57 [(.bool false),(.bool false),(.bool false),(.bool false),(.bool false),(.bool false),(.bool false),(.bool
 false),(.bool false),(.bool false),(.bool false),(.bool false),(.bool false),(.bool false),(.bool false),(.bool false),(.bool false)]) []]) (.seq (.seq (.reg false [oo_ 5 (.mv (.d (.int .i64 0))) []]) (.block 0 (.loop
 (.seq (.seq (.reg false [om_ 20 5 [],om_ 21 0 [],oo_ 22 (.len (.t 21)) [1],oo_ 23 (.bin .lss (.t 20) (.t 22)) [0,2],om_ 24 23 [3],og_ 25 (.mv (.t 5)) 24 true [4],og_ 26 (.bin .lss (.t 25) (.d (.int .i64 60))) 24 true
 [5,4],oo_ 27 (.pick (.t 24) (.t 26) (.d (.bool false))) [4,6]]) (.cond (.t 27) .skip (.exit 0))) (.seq (.block 1 (.seq (.reg false [om_ 30 0 [],om_ 31 5 [],oo_ 32 (.ix 1 (.t 30) (.t 31)) [0,1],oo_ 33 (.load false 1 (.t
 32)) [2],oo_ 34 (.bin .shr (.t 33) (.d (.int .u64 2))) [3],oo_ 35 (.bin .and (.t 34) (.d (.int .i64 31))) [4],oo_ 36 (.bin .sub (.t 35) (.d (.int .i64 4))) [5],om_ 6 36 [6,0,1,2,3,4,5,6]]) (.seq (.reg false [om_ 37 6
 [],oo_ 38 (.bin .geq (.t 37) (.d (.int .i64 1))) [0],om_ 39 38 [1],og_ 40 (.mv (.t 6)) 39 true [2],og_ 41 (.bin .leq (.t 40) (.d (.int .i64 16))) 39 true [3,2],oo_ 42 (.pick (.t 39) (.t 41) (.d (.bool false))) [2,4],om_
 43 42 [5,2],og_ 44 (.mv (.t 6)) 43 true [6],og_ 45 (.ixa 17 1 (.t 4) (.t 44)) 43 true [7,6],og_ 46 (.load false 1 (.t 45)) 43 true [8,6],oo_ 47 (.pick (.t 43) (.t 46) (.d (.bool false))) [6,9],om_ 7 47
 [10,6,0,1,2,3,4,5,6,7,8,9,10]]) (.seq (.seq (.reg false [om_ 48 0 [],om_ 49 5 [],oo_ 50 (.ix 1 (.t 48) (.t 49)) [0,1],oo_ 51 (.load false 1 (.t 50)) [2],oo_ 52 (.bin .and (.t 51) (.d (.int .i64 3))) [3]]) (.block 2
 (.seq (.seq (.reg false [oo_ 84 (.bin .eql (.t 52) (.d (.int .i64 0))) [],om_ 83 84 [0]]) (.cond (.t 83) .skip (.reg false [oo_ 85 (.bin .eql (.t 52) (.d (.int .i64 1))) [],om_ 83 85 [0]]))) (.cond (.t 83) (.seq (.reg
 false [oo_ 8 (.mv (.d (.int .i64 0))) []]) (.seq (.seq (.reg false [oo_ 9 (.mv (.d (.int .i64 16))) []]) (.block 3 (.loop (.seq (.seq (.reg false [om_ 86 9 [],oo_ 87 (.bin .geq (.t 86) (.d (.int .i64 1))) [0]]) (.cond
 (.t 87) .skip (.exit 3))) (.seq (.block 4 (.seq (.reg false [om_ 90 9 [],oo_ 91 (.ixa 17 1 (.t 4) (.t 90)) [0],oo_ 92 (.load false 1 (.t 91)) [1],oo_ 93 (.un .not (.t 92)) [2]]) (.cond (.t 93) (.reg false [om_ 94 9
 [],om_ 8 94 [0,0]]) .skip))) (.reg false [om_ 88 9 [],oo_ 89 (.bin .sub (.t 88) (.d (.int .i64 1))) [0],om_ 9 89 [1,0,1]])))))) (.seq (.reg false [om_ 95 3 [],oo_ 96 (.bsl 3 1 4 [(.int .i64 0),(.int .i64 0),(.int .i64
 0),(.int .i64 0)] [(0,1,(.d (.int .i64 1))),(1,1,(.d (.int .i64 2))),(2,1,(.d (.int .i64 8))),(3,1,(.d (.int .i64 10)))]) [],oo_ 97 (.build [(.int .i64 0),(.int .i64 0),(.int .i64 0),(.int .i64 0),(.int .i64 0),(.int
 .u64 0),.nilsl,.nilsl] [(0,1,(.d (.int .i64 1))),(6,1,(.t 96))]) [1],oo_ 98 (.call 13 [(.t 95),(.t 97)]) [0,2],oo_ 10 (.new 63 [(.int .i64 0),(.int .i64 0),(.bool false),.nilsl,(.bool false),.nilsl,.nilsl,(.bool
 false),.nilsl,.nilsl,(.bool false),.nilsl,.nilsl,(.bool false),.nilsl,.nilsl]) [],on_ (.store 16 (.t 10) (.t 98)) [4,3,3,0,1,2,3,4]]) (.seq (.seq (.reg false [om_ 99 8 [],oo_ 100 (.bin .eql (.t 99) (.d (.int .i64 0)))
 [0]]) (.cond (.t 100) (.seq (.seq (.reg false [oo_ 101 (.fa 0 (.t 10)) [],oo_ 102 (.load false 1 (.t 101)) [0],oo_ 103 (.bin .neq (.t 102) (.d (.int .i64 11))) [1],om_ 104 103 [2],og_ 105 (.fa 1 (.t 10)) 104 false
 [3],og_ 106 (.load false 1 (.t 105)) 104 false [4,3],og_ 107 (.bin .neq (.t 106) (.d (.int .i64 0))) 104 false [5,3],oo_ 108 (.pick (.t 104) (.d (.bool true)) (.t 107)) [3,6]]) (.cond (.t 108) (.seq (.reg false [oo_ 2
 (.mv (.d (.bool false))) []]) .ret) .skip)) (.exit 1)) .skip)) (.seq (.seq (.reg false [oo_ 109 (.fa 0 (.t 10)) [],oo_ 110 (.load false 1 (.t 109)) [0],oo_ 111 (.bin .neq (.t 110) (.d (.int .i64 0))) [1],om_ 112 111
 [2],og_ 113 (.fa 1 (.t 10)) 112 false [3],og_ 114 (.load false 1 (.t 113)) 112 false [4,3],og_ 115 (.mv (.t 8)) 112 false [3],og_ 116 (.bin .neq (.t 114) (.t 115)) 112 false [5,6,3],oo_ 117 (.pick (.t 112) (.d (.bool
 true)) (.t 116)) [3,7]]) (.cond (.t 117) (.seq (.reg false [oo_ 2 (.mv (.d (.bool false))) []]) .ret) .skip)) (.reg false [om_ 118 8 [],oo_ 119 (.ixa 17 1 (.t 4) (.t 118)) [0,0],on_ (.store 1 (.t 119) (.d (.bool true)))
 [1,0]])))))) (.seq (.reg false [oo_ 121 (.bin .eql (.t 52) (.d (.int .i64 2))) [],om_ 120 121 [0]]) (.cond (.t 120) (.seq (.reg false [om_ 122 3 [],om_ 123 6 [],oo_ 124 (.build [(.int .i64 0),(.int .i64 0),(.int .i64
 0),(.int .i64 0),(.int .i64 0),(.int .u64 0),.nilsl,.nilsl] [(0,1,(.d (.int .i64 9))),(1,1,(.t 123))]) [1],oo_ 125 (.call 13 [(.t 122),(.t 124)]) [0,2],oo_ 11 (.new 63 [(.int .i64 0),(.int .i64 0),(.bool
 false),.nilsl,(.bool false),.nilsl,.nilsl,(.bool false),.nilsl,.nilsl,(.bool false),.nilsl,.nilsl,(.bool false),.nilsl,.nilsl]) [],on_ (.store 16 (.t 11) (.t 125)) [4,3,3,0,1,2,3,4]]) (.seq (.seq (.reg false [oo_ 126
 (.fa 0 (.t 11)) [],oo_ 127 (.load false 1 (.t 126)) [0],oo_ 128 (.bin .eql (.t 127) (.d (.int .i64 0))) [1],om_ 129 7 [],oo_ 130 (.beq true (.t 128) (.t 129)) [2,3],om_ 131 130 [4],og_ 132 (.mv (.t 7)) 131 false [5],og_
 133 (.un .not (.t 132)) 131 false [6,5],og_ 134 (.mv (.t 133)) 131 false [7,5,5],og_ 135 (.fa 0 (.t 11)) 134 true [8],og_ 136 (.load false 1 (.t 135)) 134 true [9,8],og_ 137 (.bin .neq (.t 136) (.d (.int .i64 9))) 134
 true [10,8],og_ 138 (.pick (.t 134) (.t 137) (.d (.bool false))) 131 false [8,11,5],oo_ 139 (.pick (.t 131) (.d (.bool true)) (.t 138)) [5,12]]) (.cond (.t 139) (.seq (.reg false [oo_ 2 (.mv (.d (.bool false))) []])
 .ret) .skip)) (.seq (.reg false [om_ 140 7 []]) (.cond (.t 140) (.reg false [om_ 141 6 [],oo_ 142 (.ixa 17 1 (.t 4) (.t 141)) [0,0],on_ (.store 1 (.t 142) (.d (.bool false))) [1,0]]) .skip)))) (.seq (.reg false [om_ 53
 3 [],om_ 54 6 [],oo_ 55 (.build [(.int .i64 0),(.int .i64 0),(.int .i64 0),(.int .i64 0),(.int .i64 0),(.int .u64 0),.nilsl,.nilsl] [(0,1,(.d (.int .i64 5))),(1,1,(.d (.int .i64 1))),(2,1,(.t 54))]) [1],oo_ 56 (.call 13
 [(.t 53),(.t 55)]) [0,2],oo_ 12 (.new 63 [(.int .i64 0),(.int .i64 0),(.bool false),.nilsl,(.bool false),.nilsl,.nilsl,(.bool false),.nilsl,.nilsl,(.bool false),.nilsl,.nilsl,(.bool false),.nilsl,.nilsl]) [],on_ (.store
 16 (.t 12) (.t 56)) [4,3,3,0,1,2,3,4]]) (.seq (.reg false [om_ 57 7 [],om_ 58 57 [0],og_ 59 (.ixa 17 1 (.t 4) (.d (.int .i64 1))) 58 true [1],og_ 60 (.load false 1 (.t 59)) 58 true [2,1],oo_ 61 (.pick (.t 58) (.t 60)
 (.d (.bool false))) [1,3],om_ 62 61 [4,1],og_ 63 (.mv (.t 6)) 62 true [5],og_ 64 (.bin .neq (.t 63) (.d (.int .i64 1))) 62 true [6,5],oo_ 65 (.pick (.t 62) (.t 64) (.d (.bool false))) [5,7],om_ 13 65
 [8,5,0,1,2,3,4,5,6,7,8]]) (.seq (.seq (.reg false [oo_ 66 (.fa 0 (.t 12)) [],oo_ 67 (.load false 1 (.t 66)) [0],oo_ 68 (.bin .eql (.t 67) (.d (.int .i64 0))) [1],om_ 69 13 [],oo_ 70 (.beq true (.t 68) (.t 69)) [2,3],om_
 71 70 [4],og_ 72 (.mv (.t 13)) 71 false [5],og_ 73 (.un .not (.t 72)) 71 false [6,5],og_ 74 (.mv (.t 73)) 71 false [7,5,5],og_ 75 (.fa 0 (.t 12)) 74 true [8],og_ 76 (.load false 1 (.t 75)) 74 true [9,8],og_ 77 (.bin
 .neq (.t 76) (.d (.int .i64 9))) 74 true [10,8],og_ 78 (.pick (.t 74) (.t 77) (.d (.bool false))) 71 false [8,11,5],oo_ 79 (.pick (.t 71) (.d (.bool true)) (.t 78)) [5,12]]) (.cond (.t 79) (.seq (.reg false [oo_ 2 (.mv
 (.d (.bool false))) []]) .ret) .skip)) (.seq (.reg false [om_ 80 13 []]) (.cond (.t 80) (.reg false [om_ 81 6 [],oo_ 82 (.ixa 17 1 (.t 4) (.t 81)) [0,0],on_ (.store 1 (.t 82) (.d (.bool false))) [1,0]]) .skip)))))))))))
 (.seq (.reg false [oo_ 143 (.mv (.d (.int .i64 0))) []]) (.block 5 (.loop (.seq (.reg false [oo_ 144 (.bin .lss (.t 143) (.d (.int .i64 17))) []]) (.seq (.cond (.t 144) .skip (.exit 5)) (.seq (.block 6 (.seq (.reg false
 [om_ 145 143 [],om_ 14 145 [0,0]]) (.seq (.reg false [om_ 147 3 [],om_ 148 14 [],oo_ 149 (.call 14 [(.t 147),(.t 148)]) [0,1],om_ 146 149 [2],oo_ 150 (.ext (.t 146) 0) [3],oo_ 151 (.ext (.t 146) 1) [3],oo_ 15 (.new 37
 [(.int .i64 0),(.int .i64 0),(.int .i64 0),(.int .i64 0),(.int .i64 0),(.int .i64 0),(.bool false),.nilp,.nilp,.nilp,.nilp]) [],on_ (.store 11 (.t 15) (.t 150)) [6,4,2,0,1,2,3,4,6],om_ 16 151 [5,7,0,1,2,3,4,5,6,7]])
 (.seq (.reg false [om_ 152 16 [],oo_ 153 (.bin .eql (.t 152) (.d (.int .i64 0))) [0],om_ 154 14 [],oo_ 155 (.ixa 17 1 (.t 4) (.t 154)) [2],oo_ 156 (.load false 1 (.t 155)) [3],oo_ 157 (.beq true (.t 153) (.t 156))
 [1,4]]) (.cond (.t 157) (.seq (.reg false [oo_ 2 (.mv (.d (.bool false))) []]) .ret) .skip))))) (.reg false [oo_ 158 (.bin .add (.t 143) (.d (.int .i64 1))) [],om_ 143 158 [0]]))))))))))) (.reg false [om_ 28 5 [],oo_ 29
 (.bin .add (.t 28) (.d (.int .i64 1))) [0],om_ 5 29 [1,0,1]])))))) (.seq (.reg false [oo_ 2 (.mv (.d (.bool true))) []]) .ret))))))
theorem o_6e:fnOf Tryz.prog o_6c=some (o_6d,[.t 2],159,false):=by kernel_rfl

abbrev o_6f:FuncId:=10
abbrev o_6g:FuncId:=11
abbrev o_6h:FuncId:=12
abbrev o_6i:FuncId:=13
def o_6j:C:=(.seq (.reg false [oo_ 3 (.box 66 (.t 1)) [],oo_ 4 (.new 63 [(.int .i64 0),(.int .i64 0),(.bool false),.nilsl,(.bool false),.nilsl,.nilsl,(.bool false),.nilsl,.nilsl,(.bool false),.nilsl,.nilsl,(.bool
 false),.nilsl,.nilsl]) []]) (.seq (.seq (.reg false [oo_ 5 (.fa 0 (.t 3)) [],oo_ 6 (.load false 1 (.t 5)) [0]]) (.block 0 (.seq (.reg false [oo_ 8 (.bin .eql (.t 6) (.d (.int .i64 1))) [],om_ 7 8 [0]]) (.cond (.t 7)
 (.seq (.reg false [om_ 9 0 [],oo_ 10 (.load true 8 (.t 3)) [],oo_ 11 (.call 42 [(.t 9),(.t 10)]) [0,1],on_ (.store 16 (.t 4) (.t 11)) [2,2,0,1,2]]) .ret) (.seq (.reg false [oo_ 13 (.bin .eql (.t 6) (.d (.int .i64 8)))
 [],om_ 12 13 [0]]) (.cond (.t 12) (.seq (.reg false [om_ 14 0 [],oo_ 15 (.load true 8 (.t 3)) [],oo_ 16 (.call 43 [(.t 14),(.t 15)]) [0,1],on_ (.store 16 (.t 4) (.t 16)) [2,2,0,1,2]]) .ret) (.seq (.seq (.reg false [oo_
 18 (.bin .eql (.t 6) (.d (.int .i64 2))) [],om_ 17 18 [0]]) (.cond (.t 17) .skip (.seq (.reg false [oo_ 19 (.bin .eql (.t 6) (.d (.int .i64 3))) [],om_ 17 19 [0]]) (.cond (.t 17) .skip (.seq (.reg false [oo_ 20 (.bin
 .eql (.t 6) (.d (.int .i64 4))) [],om_ 17 20 [0]]) (.cond (.t 17) .skip (.seq (.reg false [oo_ 21 (.bin .eql (.t 6) (.d (.int .i64 5))) [],om_ 17 21 [0]]) (.cond (.t 17) .skip (.seq (.reg false [oo_ 22 (.bin .eql (.t 6)
 (.d (.int .i64 6))) [],om_ 17 22 [0]]) (.cond (.t 17) .skip (.seq (.reg false [oo_ 23 (.bin .eql (.t 6) (.d (.int .i64 7))) [],om_ 17 23 [0]]) (.cond (.t 17) .skip (.reg false [oo_ 24 (.bin .eql (.t 6) (.d (.int .i64
 9))) [],om_ 17 24 [0]]))))))))))))) (.cond (.t 17) (.seq (.seq (.reg false [om_ 25 0 [],oo_ 26 (.fa 1 (.t 3)) [],oo_ 27 (.load false 1 (.t 26)) [1],oo_ 28 (.call 44 [(.t 25),(.t 27)]) [0,2],oo_ 29 (.un .not (.t 28))
 [3]]) (.cond (.t 29) (.seq (.reg false [oo_ 30 (.call 45 [(.d (.int .i64 9))]) [],on_ (.store 16 (.t 4) (.t 30)) [0,0,0]]) .ret) .skip)) (.seq (.reg false [om_ 31 0 [],oo_ 32 (.load true 8 (.t 3)) [],oo_ 33 (.call 46
 [(.t 31),(.t 32)]) [0,1],on_ (.store 16 (.t 4) (.t 33)) [2,2,0,1,2]]) .ret)) .skip)))))))) (.seq (.reg false [oo_ 34 (.call 45 [(.d (.int .i64 1))]) [],on_ (.store 16 (.t 4) (.t 34)) [0,0,0]]) .ret)))
theorem o_6k:fnOf Tryz.prog o_6i=some (o_6j,[.cell 4 true 16],35,false):=by kernel_rfl

abbrev o_6l:FuncId:=14
def o_6m:C:=(.seq (.reg false [oo_ 4 (.new 37 [(.int .i64 0),(.int .i64 0),(.int .i64 0),(.int .i64 0),(.int .i64 0),(.int .i64 0),(.bool false),.nilp,.nilp,.nilp,.nilp]) [],oo_ 5 (.mv (.d (.int .i64 0))) []]) (.seq (.seq (.reg
 false [om_ 6 0 [],om_ 7 1 [],oo_ 8 (.call 44 [(.t 6),(.t 7)]) [0,1],oo_ 9 (.un .not (.t 8)) [2]]) (.cond (.t 9) (.seq (.reg false [oo_ 10 (.build [(.int .i64 0),(.int .i64 0),(.int .i64 0),(.int .i64 0),(.int .i64
 0),(.int .i64 0),(.bool false),.nilp,.nilp,.nilp,.nilp] []) [],on_ (.store 11 (.t 4) (.t 10)) [0,0],oo_ 5 (.mv (.d (.int .i64 9))) [1,0,1]]) .ret) .skip)) (.seq (.reg false [om_ 11 0 [],om_ 12 1 [],oo_ 13 (.chk (.t 11))
 [0],oo_ 14 (.fa 1 (.t 13)) [2],oo_ 15 (.ixa 17 11 (.t 14) (.t 12)) [3,1],oo_ 16 (.load true 11 (.t 15)) [4],oo_ 17 (.call 47 [(.t 16)]) [5],on_ (.store 11 (.t 4) (.t 17)) [6,6,0,1,2,3,4,5,6],oo_ 5 (.mv (.d (.int .i64
 0))) [7,0,1,2,3,4,5,6,7]]) .ret)))
theorem o_6n:fnOf Tryz.prog o_6l=some (o_6m,[.cell 4 true 11,.t 5],18,false):=by kernel_rfl

abbrev o_6o:FuncId:=42
def o_6p:C:=(.seq (.reg false [oo_ 3 (.box 66 (.t 1)) [],oo_ 4 (.new 63 [(.int .i64 0),(.int .i64 0),(.bool false),.nilsl,(.bool false),.nilsl,.nilsl,(.bool false),.nilsl,.nilsl,(.bool false),.nilsl,.nilsl,(.bool
 false),.nilsl,.nilsl]) []]) (.seq (.reg false [oo_ 10 (.fa 6 (.t 3)) [],oo_ 11 (.load false 1 (.t 10)) [0],oo_ 12 (.call 130 [(.t 11)]) [1],om_ 9 12 [2],oo_ 13 (.ext (.t 9) 0) [3],oo_ 14 (.ext (.t 9) 1) [3],oo_ 5 (.new
 37 [(.int .i64 0),(.int .i64 0),(.int .i64 0),(.int .i64 0),(.int .i64 0),(.int .i64 0),(.bool false),.nilp,.nilp,.nilp,.nilp]) [],on_ (.store 11 (.t 5) (.t 13)) [6,4,2,0,1,2,3,4,6],om_ 6 14 [5,7,0,1,2,3,4,5,6,7]])
 (.seq (.seq (.reg false [om_ 15 6 [],oo_ 16 (.bin .neq (.t 15) (.d (.int .i64 0))) [0]]) (.cond (.t 16) (.seq (.reg false [om_ 17 6 [],oo_ 18 (.call 45 [(.t 17)]) [0],on_ (.store 16 (.t 4) (.t 18)) [1,1,0,1]]) .ret)
 .skip)) (.seq (.reg false [om_ 20 0 [],oo_ 21 (.call 131 [(.t 20)]) [0],om_ 19 21 [1],oo_ 22 (.ext (.t 19) 0) [2],oo_ 23 (.ext (.t 19) 1) [2],om_ 7 22 [3,1,0,1,2,3],om_ 6 23 [4,5,0,1,2,3,4,5]]) (.seq (.seq (.reg false
 [om_ 24 6 [],oo_ 25 (.bin .neq (.t 24) (.d (.int .i64 0))) [0]]) (.cond (.t 25) (.seq (.reg false [om_ 26 6 [],oo_ 27 (.call 45 [(.t 26)]) [0],on_ (.store 16 (.t 4) (.t 27)) [1,1,0,1]]) .ret) .skip)) (.seq (.seq (.reg
 false [oo_ 28 (.fa 6 (.t 3)) [],oo_ 29 (.load false 1 (.t 28)) [0],om_ 8 29 [1,0,1]]) (.seq (.reg false [oo_ 30 (.fa 0 (.t 5)) [],oo_ 31 (.load false 1 (.t 30)) [0],oo_ 32 (.bin .eql (.t 31) (.d (.int .i64 4))) [1]])
 (.cond (.t 32) (.seq (.reg true [om_ 34 0 [],oo_ 35 (.chk (.t 34)) [0],oo_ 36 (.fa 0 (.t 35)) [1],oo_ 37 (.load false 1 (.t 36)) [2],om_ 38 8 [],oo_ 39 (.ix 1 (.t 38) (.d (.int .i64 1))) [4],oo_ 40 (.load false 1 (.t
 39)) [5],om_ 41 8 [],oo_ 42 (.ix 1 (.t 41) (.d (.int .i64 2))) [7],oo_ 43 (.load false 1 (.t 42)) [8],om_ 44 8 [],oo_ 45 (.slice 1 (.t 44) (some (.d (.int .i64 3))) none none) [10],oo_ 46 (.call 133 [(.t 45)]) [11],oo_
 47 (.build [(.int .i64 0),(.int .i64 0),(.int .i64 0),(.int .i64 0),(.int .i64 0)] [(0,1,(.t 40)),(1,1,(.t 43)),(2,3,(.t 46))]) [6,9,12],oo_ 48 (.call 132 [(.t 37),(.t 47)]) [3,13,12],om_ 33 48 [14],oo_ 49 (.ext (.t 33)
 0) [15],oo_ 50 (.ext (.t 33) 1) [15],oo_ 51 (.fa 9 (.t 5)) [0,1,2,3,4,5,6,7,8,9,10,11,12,13,14,15,16],on_ (.store 1 (.t 51) (.t 49)) [18,16,14,0,1,2,3,4,5,6,7,8,9,10,11,12,13,14,15,16],om_ 6 50
 [17,19,0,1,2,3,4,5,6,7,8,9,10,11,12,13,14,15,16,17,18,19]]) (.seq (.reg false [om_ 52 6 [],oo_ 53 (.bin .neq (.t 52) (.d (.int .i64 0))) [0]]) (.cond (.t 53) (.seq (.reg false [om_ 54 6 [],oo_ 55 (.call 45 [(.t 54)])
 [0],on_ (.store 16 (.t 4) (.t 55)) [1,1,0,1]]) .ret) .skip))) .skip))) (.seq (.reg true [om_ 56 0 [],om_ 57 7 [],oo_ 58 (.load true 11 (.t 5)) [],oo_ 59 (.chk (.t 56)) [0],oo_ 60 (.fa 1 (.t 59)) [3],oo_ 61 (.ixa 17 11
 (.t 60) (.t 57)) [4,1,0,1,2],on_ (.store 11 (.t 61) (.t 58)) [5,2,0,1,2]]) (.seq (.reg false [om_ 62 7 [],oo_ 63 (.build [(.int .i64 0),(.int .i64 0),(.bool false),.nilsl,(.bool false),.nilsl,.nilsl,(.bool
 false),.nilsl,.nilsl,(.bool false),.nilsl,.nilsl,(.bool false),.nilsl,.nilsl] [(1,1,(.t 62))]) [0],on_ (.store 16 (.t 4) (.t 63)) [1,0,1]]) .ret))))))))
theorem o_6q:fnOf Tryz.prog o_6o=some (o_6p,[.cell 4 true 16],64,false):=by kernel_rfl

abbrev o_6r:FuncId:=44
def o_6s:C:=(.seq (.reg false [oo_ 4 (.mv (.d (.bool false))) []]) (.seq (.reg false [om_ 5 1 [],oo_ 6 (.bin .geq (.t 5) (.d (.int .i64 1))) [0],om_ 7 6 [1],og_ 8 (.mv (.t 1)) 7 true [2],og_ 9 (.bin .lss (.t 8) (.d (.int .i64 17)))
 7 true [3,2],oo_ 10 (.pick (.t 7) (.t 9) (.d (.bool false))) [2,4],om_ 11 10 [5,2],og_ 12 (.mv (.t 0)) 11 true [6],og_ 13 (.mv (.t 1)) 11 true [6],og_ 14 (.chk (.t 12)) 11 true [7,6],og_ 15 (.fa 1 (.t 14)) 11 true
 [9,6],og_ 16 (.ixa 17 11 (.t 15) (.t 13)) 11 true [10,8,6],og_ 17 (.fa 0 (.t 16)) 11 true [11,6],og_ 18 (.load false 1 (.t 17)) 11 true [12,6],og_ 19 (.bin .neq (.t 18) (.d (.int .i64 0))) 11 true [13,6],oo_ 20 (.pick
 (.t 11) (.t 19) (.d (.bool false))) [6,14],om_ 4 20 [15,6,0,1,2,3,4,5,6,7,8,9,10,11,12,13,14,15]]) .ret))
theorem o_6t:fnOf Tryz.prog o_6r=some (o_6s,[.t 4],21,false):=by kernel_rfl

abbrev o_6u:FuncId:=45
def o_6v:C:=(.seq (.reg false [oo_ 2 (.new 63 [(.int .i64 0),(.int .i64 0),(.bool false),.nilsl,(.bool false),.nilsl,.nilsl,(.bool false),.nilsl,.nilsl,(.bool false),.nilsl,.nilsl,(.bool false),.nilsl,.nilsl]) []]) (.seq (.reg
 false [om_ 3 0 [],oo_ 4 (.build [(.int .i64 0),(.int .i64 0),(.bool false),.nilsl,(.bool false),.nilsl,.nilsl,(.bool false),.nilsl,.nilsl,(.bool false),.nilsl,.nilsl,(.bool false),.nilsl,.nilsl] [(0,1,(.t 3))]) [0],on_
 (.store 16 (.t 2) (.t 4)) [1,0,1]]) .ret))
theorem o_6w:fnOf Tryz.prog o_6u=some (o_6v,[.cell 2 true 16],5,false):=by kernel_rfl

abbrev o_6x:FuncId:=46
def o_6y:C:=(.seq (.reg false [oo_ 3 (.box 66 (.t 1)) [],oo_ 4 (.new 63 [(.int .i64 0),(.int .i64 0),(.bool false),.nilsl,(.bool false),.nilsl,.nilsl,(.bool false),.nilsl,.nilsl,(.bool false),.nilsl,.nilsl,(.bool
 false),.nilsl,.nilsl]) []]) (.seq (.reg true [om_ 8 0 [],oo_ 9 (.fa 1 (.t 3)) [],oo_ 10 (.load false 1 (.t 9)) [1],oo_ 11 (.chk (.t 8)) [0],oo_ 12 (.fa 1 (.t 11)) [3],oo_ 13 (.ixa 17 11 (.t 12) (.t 10)) [4,2],om_ 5 13
 [5,0,1,2,3,4,5]]) (.seq (.seq (.reg false [oo_ 14 (.fa 0 (.t 3)) [],oo_ 15 (.load false 1 (.t 14)) [0]]) (.block 0 (.seq (.reg false [oo_ 17 (.bin .eql (.t 15) (.d (.int .i64 2))) [],om_ 16 17 [0]]) (.cond (.t 16) (.seq
 (.reg false [om_ 18 0 [],om_ 19 5 [],oo_ 20 (.load true 8 (.t 3)) [],oo_ 21 (.call 135 [(.t 18),(.t 19),(.t 20)]) [0,1,2],on_ (.store 16 (.t 4) (.t 21)) [3,3,0,1,2,3]]) .ret) (.seq (.reg false [oo_ 23 (.bin .eql (.t 15)
 (.d (.int .i64 3))) [],om_ 22 23 [0]]) (.cond (.t 22) (.seq (.reg false [om_ 24 0 [],om_ 25 5 [],oo_ 26 (.load true 8 (.t 3)) [],oo_ 27 (.call 136 [(.t 24),(.t 25),(.t 26)]) [0,1,2],on_ (.store 16 (.t 4) (.t 27))
 [3,3,0,1,2,3]]) .ret) (.seq (.reg false [oo_ 29 (.bin .eql (.t 15) (.d (.int .i64 4))) [],om_ 28 29 [0]]) (.cond (.t 28) (.seq (.reg true [om_ 30 5 [],oo_ 31 (.chk (.t 30)) [0],oo_ 32 (.load true 11 (.t 31)) [1],oo_ 33
 (.load true 8 (.t 3)) [],oo_ 34 (.call 137 [(.t 32),(.t 33)]) [2,3],on_ (.store 16 (.t 4) (.t 34)) [4,4,0,1,2,3,4]]) .ret) (.seq (.reg false [oo_ 36 (.bin .eql (.t 15) (.d (.int .i64 5))) [],om_ 35 36 [0]]) (.cond (.t
 35) (.seq (.reg false [om_ 37 0 [],om_ 38 5 [],oo_ 39 (.load true 8 (.t 3)) [],oo_ 40 (.call 138 [(.t 37),(.t 38),(.t 39)]) [0,1,2],on_ (.store 16 (.t 4) (.t 40)) [3,3,0,1,2,3]]) .ret) (.seq (.reg false [oo_ 42 (.bin
 .eql (.t 15) (.d (.int .i64 6))) [],om_ 41 42 [0]]) (.cond (.t 41) (.seq (.reg true [om_ 43 5 [],oo_ 44 (.chk (.t 43)) [0],oo_ 45 (.load true 11 (.t 44)) [1],oo_ 46 (.load true 8 (.t 3)) [],oo_ 47 (.call 139 [(.t
 45),(.t 46)]) [2,3],on_ (.store 16 (.t 4) (.t 47)) [4,4,0,1,2,3,4]]) .ret) (.seq (.reg false [oo_ 49 (.bin .eql (.t 15) (.d (.int .i64 7))) [],om_ 48 49 [0]]) (.cond (.t 48) (.seq (.reg false [om_ 51 5 [],oo_ 52 (.chk
 (.t 51)) [0],oo_ 53 (.load true 11 (.t 52)) [1],oo_ 54 (.call 61 [(.t 53)]) [2],om_ 50 54 [3],oo_ 55 (.ext (.t 50) 0) [4],oo_ 56 (.ext (.t 50) 1) [4],om_ 6 55 [5,3,0,1,2,3,4,5],om_ 7 56 [6,7,0,1,2,3,4,5,6,7]]) (.seq
 (.seq (.reg false [om_ 57 7 [],oo_ 58 (.bin .eql (.t 57) (.d (.int .i64 0))) [0],om_ 59 58 [1],og_ 60 (.mv (.t 6)) 59 true [2],og_ 61 (.len (.t 60)) 59 true [3,2],og_ 62 (.bin .gtr (.t 61) (.d (.int .i64 4096))) 59 true
 [4,2],oo_ 63 (.pick (.t 59) (.t 62) (.d (.bool false))) [2,5]]) (.cond (.t 63) (.reg false [oo_ 7 (.mv (.d (.int .i64 3))) []]) .skip)) (.seq (.seq (.reg false [om_ 64 7 [],oo_ 65 (.bin .neq (.t 64) (.d (.int .i64 0)))
 [0]]) (.cond (.t 65) (.seq (.reg false [om_ 66 7 [],oo_ 67 (.call 45 [(.t 66)]) [0],on_ (.store 16 (.t 4) (.t 67)) [1,1,0,1]]) .ret) .skip)) (.seq (.reg false [om_ 68 6 [],oo_ 69 (.build [(.int .i64 0),(.int .i64
 0),(.bool false),.nilsl,(.bool false),.nilsl,.nilsl,(.bool false),.nilsl,.nilsl,(.bool false),.nilsl,.nilsl,(.bool false),.nilsl,.nilsl] [(15,1,(.t 68))]) [0],on_ (.store 16 (.t 4) (.t 69)) [1,0,1]]) .ret))))
 .skip)))))))))))))) (.seq (.reg false [om_ 70 5 [],oo_ 71 (.build [(.int .i64 0),(.int .i64 0),(.int .i64 0),(.int .i64 0),(.int .i64 0),(.int .i64 0),(.bool false),.nilp,.nilp,.nilp,.nilp] []) [],oo_ 72 (.chk (.t 70))
 [0,0,1],on_ (.store 11 (.t 72) (.t 71)) [2,1,0,1]]) (.seq (.reg false [oo_ 73 (.build [(.int .i64 0),(.int .i64 0),(.bool false),.nilsl,(.bool false),.nilsl,.nilsl,(.bool false),.nilsl,.nilsl,(.bool
 false),.nilsl,.nilsl,(.bool false),.nilsl,.nilsl] []) [],on_ (.store 16 (.t 4) (.t 73)) [0,0]]) .ret)))))
theorem o_6z:fnOf Tryz.prog o_6x=some (o_6y,[.cell 4 true 16],74,false):=by kernel_rfl

abbrev o_70:FuncId:=47
abbrev o_71:FuncId:=130
abbrev o_72:FuncId:=131
def o_73:C:=(.seq (.reg false [oo_ 2 (.mv (.d (.int .i64 0))) [],oo_ 3 (.mv (.d (.int .i64 0))) [0]]) (.seq (.seq (.reg false [oo_ 4 (.mv (.d (.int .i64 1))) []]) (.block 0 (.loop (.seq (.seq (.reg false [om_ 5 4 [],oo_ 6 (.bin
 .lss (.t 5) (.d (.int .i64 17))) [0]]) (.cond (.t 6) .skip (.exit 0))) (.seq (.block 1 (.seq (.reg false [om_ 9 0 [],om_ 10 4 [],oo_ 11 (.call 44 [(.t 9),(.t 10)]) [0,1],oo_ 12 (.un .not (.t 11)) [2]]) (.cond (.t 12)
 (.seq (.reg false [om_ 13 4 [],om_ 2 13 [0,0],oo_ 3 (.mv (.d (.int .i64 0))) [1,0,1]]) .ret) .skip))) (.reg false [om_ 7 4 [],oo_ 8 (.bin .add (.t 7) (.d (.int .i64 1))) [0],om_ 4 8 [1,0,1]])))))) (.seq (.reg false [oo_
 2 (.mv (.d (.int .i64 0))) [],oo_ 3 (.mv (.d (.int .i64 11))) [0,0]]) .ret)))
theorem o_74:fnOf Tryz.prog o_72=some (o_73,[.t 2,.t 3],14,false):=by kernel_rfl

abbrev o_75:FuncId:=138
def o_76:C:=(.seq (.reg false [oo_ 5 (.box 66 (.t 2)) [],oo_ 6 (.new 63 [(.int .i64 0),(.int .i64 0),(.bool false),.nilsl,(.bool false),.nilsl,.nilsl,(.bool false),.nilsl,.nilsl,(.bool false),.nilsl,.nilsl,(.bool
 false),.nilsl,.nilsl]) []]) (.seq (.seq (.reg false [om_ 10 0 [],oo_ 11 (.fa 2 (.t 5)) [],oo_ 12 (.load false 1 (.t 11)) [1],oo_ 13 (.call 44 [(.t 10),(.t 12)]) [0,2],oo_ 14 (.un .not (.t 13)) [3],om_ 15 14 [4,3],og_ 16
 (.fa 2 (.t 5)) 15 false [5],og_ 17 (.load false 1 (.t 16)) 15 false [6,5],og_ 18 (.fa 1 (.t 5)) 15 false [5],og_ 19 (.load false 1 (.t 18)) 15 false [8,5],og_ 20 (.bin .eql (.t 17) (.t 19)) 15 false [7,9,5],oo_ 21
 (.pick (.t 15) (.d (.bool true)) (.t 20)) [5,10]]) (.cond (.t 21) (.seq (.reg false [oo_ 22 (.call 45 [(.d (.int .i64 9))]) [],on_ (.store 16 (.t 6) (.t 22)) [0,0,0]]) .ret) .skip)) (.seq (.reg true [om_ 23 0 [],oo_ 24
 (.fa 2 (.t 5)) [],oo_ 25 (.load false 1 (.t 24)) [1],oo_ 26 (.chk (.t 23)) [0],oo_ 27 (.fa 1 (.t 26)) [3],oo_ 28 (.ixa 17 11 (.t 27) (.t 25)) [4,2],om_ 7 28 [5,0,1,2,3,4,5]]) (.seq (.reg false [oo_ 8 (.mv (.d (.int .i64
 10))) []]) (.seq (.block 0 (.seq (.reg true [om_ 30 1 [],oo_ 31 (.chk (.t 30)) [0],oo_ 32 (.fa 0 (.t 31)) [1],oo_ 33 (.load false 1 (.t 32)) [2],om_ 34 7 [],oo_ 35 (.chk (.t 34)) [4],oo_ 36 (.fa 0 (.t 35)) [5],oo_ 37
 (.load false 1 (.t 36)) [6],oo_ 38 (.bin .neq (.t 33) (.t 37)) [3,7],om_ 29 38 [8]]) (.cond (.t 29) .skip (.seq (.reg true [om_ 40 1 [],oo_ 41 (.chk (.t 40)) [0],oo_ 42 (.fa 0 (.t 41)) [1],oo_ 43 (.load false 1 (.t 42))
 [2],oo_ 44 (.bin .eql (.t 43) (.d (.int .i64 1))) [3],om_ 45 44 [4],og_ 46 (.mv (.t 1)) 45 true [5],og_ 47 (.chk (.t 46)) 45 true [6,5],og_ 48 (.fa 1 (.t 47)) 45 true [7,5],og_ 49 (.load true 3 (.t 48)) 45 true
 [8,5],og_ 50 (.mv (.t 7)) 45 true [5],og_ 51 (.chk (.t 50)) 45 true [10,5],og_ 52 (.fa 1 (.t 51)) 45 true [11,5],og_ 53 (.load true 3 (.t 52)) 45 true [12,5],og_ 54 (.aeq false [0,0,0] (.t 49) (.t 53)) 45 true
 [9,13,5],oo_ 55 (.pick (.t 45) (.t 54) (.d (.bool false))) [5,14],om_ 39 55 [15,5]]) (.cond (.t 39) (.seq (.reg false [oo_ 9 (.new 31 [(.int .i64 0),(.int .i64 0),(.bool false)]) []]) (.seq (.reg true [om_ 57 1 [],oo_
 58 (.chk (.t 57)) [0],oo_ 59 (.fa 1 (.t 58)) [1],oo_ 60 (.load true 3 (.t 59)) [2],om_ 61 0 [],oo_ 62 (.chk (.t 61)) [4],oo_ 63 (.fa 0 (.t 62)) [5],oo_ 64 (.load false 1 (.t 63)) [6],om_ 65 1 [],oo_ 66 (.chk (.t 65))
 [8],oo_ 67 (.fa 4 (.t 66)) [9],oo_ 68 (.load true 3 (.t 67)) [10],om_ 69 7 [],oo_ 70 (.chk (.t 69)) [12],oo_ 71 (.fa 4 (.t 70)) [13],oo_ 72 (.load true 3 (.t 71)) [14],oo_ 73 (.call 10 [(.t 60),(.t 64),(.t 68),(.t 72)])
 [3,7,11,15],om_ 56 73 [16],oo_ 74 (.ext (.t 56) 0) [17],oo_ 75 (.ext (.t 56) 1) [17],on_ (.store 3 (.t 9) (.t 74)) [18,16,0,1,2,3,4,5,6,7,8,9,10,11,12,13,14,15,16,17,18],om_ 8 75
 [19,20,0,1,2,3,4,5,6,7,8,9,10,11,12,13,14,15,16,17,18,19,20]]) (.seq (.reg false [om_ 76 8 [],oo_ 77 (.bin .eql (.t 76) (.d (.int .i64 0))) [0]]) (.cond (.t 77) (.reg false [om_ 78 1 [],oo_ 79 (.load true 3 (.t 9))
 [],oo_ 80 (.chk (.t 78)) [0,0,1],oo_ 81 (.fa 4 (.t 80)) [2,0,1],on_ (.store 3 (.t 81) (.t 79)) [3,1,0,1]]) .skip)))) (.seq (.reg false [om_ 83 1 [],oo_ 84 (.chk (.t 83)) [0],oo_ 85 (.fa 0 (.t 84)) [1],oo_ 86 (.load
 false 1 (.t 85)) [2],oo_ 87 (.bin .eql (.t 86) (.d (.int .i64 2))) [3],om_ 82 87 [4]]) (.cond (.t 82) (.reg true [om_ 88 1 [],oo_ 89 (.chk (.t 88)) [0],oo_ 90 (.fa 7 (.t 89)) [1],oo_ 91 (.load false 1 (.t 90)) [2],om_
 92 0 [],oo_ 93 (.chk (.t 92)) [4],oo_ 94 (.fa 0 (.t 93)) [5],oo_ 95 (.load false 1 (.t 94)) [6],om_ 96 7 [],oo_ 97 (.chk (.t 96)) [8],oo_ 98 (.fa 7 (.t 97)) [9],oo_ 99 (.load false 1 (.t 98)) [10],oo_ 100 (.call 245
 [(.t 91),(.t 95),(.t 99)]) [3,7,11],om_ 8 100 [12,12,0,1,2,3,4,5,6,7,8,9,10,11,12]]) (.seq (.reg false [om_ 102 1 [],oo_ 103 (.chk (.t 102)) [0],oo_ 104 (.fa 0 (.t 103)) [1],oo_ 105 (.load false 1 (.t 104)) [2],oo_ 106
 (.bin .eql (.t 105) (.d (.int .i64 3))) [3],om_ 101 106 [4]]) (.cond (.t 101) (.reg true [om_ 107 1 [],oo_ 108 (.chk (.t 107)) [0],oo_ 109 (.fa 8 (.t 108)) [1],oo_ 110 (.load false 1 (.t 109)) [2],om_ 111 0 [],oo_ 112
 (.chk (.t 111)) [4],oo_ 113 (.fa 0 (.t 112)) [5],oo_ 114 (.load false 1 (.t 113)) [6],om_ 115 7 [],oo_ 116 (.chk (.t 115)) [8],oo_ 117 (.fa 8 (.t 116)) [9],oo_ 118 (.load false 1 (.t 117)) [10],oo_ 119 (.call 246 [(.t
 110),(.t 114),(.t 118)]) [3,7,11],om_ 8 119 [12,12,0,1,2,3,4,5,6,7,8,9,10,11,12]]) (.seq (.reg false [om_ 121 1 [],oo_ 122 (.chk (.t 121)) [0],oo_ 123 (.fa 0 (.t 122)) [1],oo_ 124 (.load false 1 (.t 123)) [2],oo_ 125
 (.bin .eql (.t 124) (.d (.int .i64 4))) [3],om_ 120 125 [4]]) (.cond (.t 120) (.reg true [om_ 126 1 [],oo_ 127 (.chk (.t 126)) [0],oo_ 128 (.fa 9 (.t 127)) [1],oo_ 129 (.load false 1 (.t 128)) [2],om_ 130 0 [],oo_ 131
 (.chk (.t 130)) [4],oo_ 132 (.fa 0 (.t 131)) [5],oo_ 133 (.load false 1 (.t 132)) [6],om_ 134 7 [],oo_ 135 (.chk (.t 134)) [8],oo_ 136 (.fa 9 (.t 135)) [9],oo_ 137 (.load false 1 (.t 136)) [10],oo_ 138 (.call 247 [(.t
 129),(.t 133),(.t 137)]) [3,7,11],om_ 8 138 [12,12,0,1,2,3,4,5,6,7,8,9,10,11,12]]) .skip))))))))))) (.seq (.seq (.reg false [om_ 139 8 [],oo_ 140 (.bin .eql (.t 139) (.d (.int .i64 0))) [0]]) (.cond (.t 140) (.reg false
 [om_ 141 7 [],oo_ 142 (.build [(.int .i64 0),(.int .i64 0),(.int .i64 0),(.int .i64 0),(.int .i64 0),(.int .i64 0),(.bool false),.nilp,.nilp,.nilp,.nilp] []) [],oo_ 143 (.chk (.t 141)) [0,0,1],on_ (.store 11 (.t 143)
 (.t 142)) [2,1,0,1]]) .skip)) (.seq (.reg false [om_ 144 8 [],oo_ 145 (.call 45 [(.t 144)]) [0],on_ (.store 16 (.t 6) (.t 145)) [1,1,0,1]]) .ret)))))))
theorem o_77:fnOf Tryz.prog o_75=some (o_76,[.cell 6 true 16],146,false):=by kernel_rfl

abbrev o_78:FuncId:=189
def o_79:C:=(.seq (.reg false [oo_ 2 (.mv (.d .nilsl)) []]) (.seq (.seq (.reg false [om_ 3 0 [],oo_ 4 (.snl false (.t 3)) [0]]) (.cond (.t 4) (.seq (.reg false [oo_ 2 (.mv (.d .nilsl)) []]) .ret) .skip)) (.seq (.reg false [oo_ 5
 (.bsl0) [],om_ 6 0 [],oo_ 7 (.app 22 1 8 (.t 5) (.t 6)) [0,1],om_ 2 7 [2,2,0,1,2]]) .ret)))
theorem o_7a:fnOf Tryz.prog o_78=some (o_79,[.t 2],8,false):=by kernel_rfl

abbrev o_7b:FuncId:=254
theorem o_7c:Tryz.prog.funcs[o_7b]?=some Tryz.f254:=Tryz.func254
abbrev o_7d:FuncId:=293
theorem o_7e:Tryz.prog.funcs[o_7d]?=some Tryz.f293:=Tryz.func293
abbrev o_7f:FuncId:=460
abbrev o_7g:FuncId:=461
abbrev o_7h:FuncId:=462
abbrev o_7i:FuncId:=463
abbrev o_7j:FuncId:=464
abbrev o_7k:FuncId:=465
end
section
def small (ws:List Nat):Prop:=∀x∈ws,x<18446744073709551616

theorem small.take {ws:List Nat} (h:small ws) (n:Nat):small (ws.take n):=fun x hx=>h x (List.mem_of_mem_take hx)

theorem small.getD {l:List Nat} (h:small l) (n:Nat):l.getD n 0<18446744073709551616:=by
 by_cases hn:n<l.length
 ·rw [List.getD,List.getElem?_eq_getElem hn];exact h _ (List.getElem_mem hn)
 ·simp [List.getD,List.getElem?_eq_none (show l.length≤n by omega)]
end
section
open Go.RowKit
def W (ws:List Nat):D:=.sl ws.length (ws.map fun x:Nat=>.int .u64 x)

def wordsF:Nat→Nat→List Nat
 | 0,_=>[]
 | f+1,n=>if n=0 then [] else (n%18446744073709551616)::wordsF f (n/18446744073709551616)
def words (n:Nat):List Nat:=wordsF n n

def size (n:Nat):Nat:=(words n).length

theorem o_7l (n:Nat) (l:List D) (hl:l.length=n) (hn:n≤4000000000):Eqn Tryz.prog o_78 [.d (.sl n l)] [] (.d (.sl n l)) []:=by
 refine Eqn.pure o_7a (o_5d _) ?_
 simp only [o_79]
 rcases Nat.eq_zero_or_pos n with rfl | h0
 ·have:l=[]:=List.eq_nil_of_length_eq_zero hl
  subst this
  refine AW.empty 0 rfl ?_ ?_
  ·simp
   refine G0 ?_;try with_reducible exact tt
   refine AW.cond rfl (fun h=>?_) (fun h=>?_)
   ·refine G0 ?_;try with_reducible exact tt
    exact Sub1.nil
   ·simp at h
  ·simp
   refine G0 ?_;try with_reducible exact tt
   refine AW.cond rfl (fun h=>?_) (fun h=>?_)
   ·simp at h
   ·refine G0 ?_;try with_reducible exact tt
    exact Sub1.sl0
 ·refine G1 h0 ?_;try with_reducible exact tt
  refine AW.cond rfl (fun h=>?_) (fun h=>?_)
  ·simp at h
  ·refine G0 ?_;try with_reducible exact tt
   have h1:¬n=0:=by omega
   simp [h1,hl]
   refine need.of (by omega) ?_
   refine AW.freeze 0 1 ⟨22,l.map .d⟩ l (by simp) rfl ?_
   simp
   refine G0 ?_;try with_reducible exact tt
   have:l.take n=l:=List.take_of_length_le (by omega)
   simp [this]
end
section
open Go.RowKit
theorem o_7m (x y c s d:Nat) (hx:x<18446744073709551616) (hy:y<18446744073709551616) (hc:c≤1) (hs:s<18446744073709551616) (e:x+y+c=s+18446744073709551616*d):Eqn Tryz.prog o_7b [.d (.int .u64 x),.d (.int .u64 y),.d (.int .u64 c)] [] (.tup [.d (.int .u64 s),.d (.int .u64 d)]) []:=by
 refine Eqn.extern o_7c (by kernel_rfl) (by kernel_rfl) (by kernel_rfl) (e:=add64Entry) (by kernel_rfl) rfl fun m vs h=>?_
 obtain ⟨v1,r1,rfl,h1,h⟩:=V.reps_cons'.1 h
 obtain ⟨v2,r2,rfl,h2,h⟩:=V.reps_cons'.1 h
 obtain ⟨v3,r3,rfl,h3,h⟩:=V.reps_cons'.1 h
 simp at h;subst h
 rw [V.rep_int] at h1 h2 h3
 subst h1 h2 h3
 have:=run_add64 (P:=Tryz.prog) x y c (by omega) (by omega) (by omega) (by omega) m.w
 refine ⟨_,this,?_⟩
 unfold V.rep
 refine ⟨[.int .u64 (((x:Int)+y+c)%18446744073709551616),.int .u64 (((x:Int)+y+c)/18446744073709551616)],rfl,?_⟩
 simp only [V.reps_cons,V.rep_int,V.reps_nil,and_true]
 constructor<;>congr 1<;>omega

theorem o_7n (x y c s d:Nat) (hx:x<18446744073709551616) (hy:y<18446744073709551616) (hc:c≤1) (hs:s<18446744073709551616) (e:x+18446744073709551616*d=s+y+c):Eqn Tryz.prog o_7d [.d (.int .u64 x),.d (.int .u64 y),.d (.int .u64 c)] [] (.tup [.d (.int .u64 s),.d (.int .u64 d)]) []:=by
 refine Eqn.extern o_7e (by kernel_rfl) (by kernel_rfl) (by kernel_rfl) (e:=sub64Entry) (by kernel_rfl) rfl fun m vs h=>?_
 obtain ⟨v1,r1,rfl,h1,h⟩:=V.reps_cons'.1 h
 obtain ⟨v2,r2,rfl,h2,h⟩:=V.reps_cons'.1 h
 obtain ⟨v3,r3,rfl,h3,h⟩:=V.reps_cons'.1 h
 simp at h;subst h
 rw [V.rep_int] at h1 h2 h3
 subst h1 h2 h3
 have:=run_sub64 (P:=Tryz.prog) x y c hc m.w
 refine ⟨_,this,?_⟩
 unfold V.rep
 refine ⟨[.int .u64 s,.int .u64 d],?_,by simp only [V.reps_cons,V.rep_int,V.reps_nil,and_true]⟩
 congr 4
 ·omega
 ·congr 2
  split<;>omega

theorem o_7o (l:List D):(V.tup (l.map .d)).plain:=by
 have h1:V.lowl 0 (l.map V.d)=true:=by induction l<;>simp_all [V.lowl,V.low]
 have h2:∀θ,V.rens θ (l.map V.d)=l.map V.d:=fun θ=>by induction l<;>simp_all [V.rens,V.ren]
 exact ⟨by simp [V.low,h1],fun θ=>by simp [V.ren,h2]⟩

@[simp] theorem o_7p (l:List V):Subs l l↔True:=iff_true_intro (Subs.refl l)
theorem o_7q (a b:D):(V.tup [.d a,.d b]).plain:=o_7o [a,b]
end
section
open Go.RowKit
section
variable {P:Program} {L:Nat} {Q:Exit→List V→List (Option Ob)→Prop} {T:List V} {H:List (Option Ob)} {x:C}
def AWu (P:Program) (L:Nat) (x:C) (Q:Exit→List V→List (Option Ob)→Prop):Nat→List V→List (Option Ob)→Prop
 | 0,_,_=>False
 | n+1,T,H=>AW P L x (thenQ (AWu P L x Q n) Q) T H
theorem AW.rounds (n:Nat) (h:AWu P L x Q n T H):AW P L (.loop x) Q T H:=by
 refine AW.loop (fun k T H=>AWu P L x Q k T H) n h fun k T H hk=>?_
 cases k with
 | zero=>exact hk.elim
 | succ k =>
  refine AW.mono hk fun e T' H' hq=>?_
  cases e<;>first | exact ⟨k,Nat.lt_succ_self k,hq⟩ | exact hq
theorem AWu.next {n:Nat} (h:AW P L x (thenQ (AWu P L x Q n) Q) T H):AWu P L x Q (n+1) T H:=h
end
theorem EqnD.sub {P:Program} {f:FuncId} {args args':List V} {Hs Hs':List Ob} {X:V} {dead:List Nat} (E:EqnD P f args' Hs X Hs' dead) (h:Subs args args'):EqnD P f args Hs X Hs' dead :=
 ⟨E.len,E.old,E.lowx,E.lowo,fun m vs hb hv=>E.run m vs hb (h m vs hv)⟩
end
section
open Go.RowKit
abbrev R4:=V×List (Option Ob)×List Nat×List Nat
def R4.then (r:R4) (K:V→List (Option Ob)→List Nat→List Nat→Prop):Prop:=K r.1 r.2.1 r.2.2.1 r.2.2.2

def evInt (op:BinOp) (k:IntKind) (a:Int) (k':IntKind) (b:Int):Option D :=
 match op with
 | .shl=>if 0≤b∧b≤k.bits then some (.int k (k.wrap (a*2^b.toNat))) else none
 | .shr=>if 0≤b∧b≤k.bits then some (.int k (a/2^b.toNat)) else none
 | .add=>if k=k' then some (.int k (k.wrap (a+b))) else none
 | .sub=>if k=k' then some (.int k (k.wrap (a-b))) else none
 | .mul=>if k=k' then some (.int k (k.wrap (a*b))) else none
 | .quo=>if k=k'∧b≠0 then some (.int k (k.wrap (a.tdiv b))) else none
 | .rem=>if k=k'∧b≠0 then some (.int k (a.tmod b)) else none
 | .and=>if k=k' then some (.int k (bits .and k a b)) else none
 | .or=>if k=k' then some (.int k (bits .or k a b)) else none
 | .xor=>if k=k' then some (.int k (bits .xor k a b)) else none
 | .andNot=>if k=k' then some (.int k (bits .andNot k a b)) else none
 | .eql=>if k=k' then some (.bool (a==b)) else none
 | .neq=>if k=k' then some (.bool (a != b)) else none
 | .lss=>if k=k' then some (.bool (decide (a<b))) else none
 | .leq=>if k=k' then some (.bool (decide (a≤b))) else none
 | .gtr=>if k=k' then some (.bool (decide (b<a))) else none
 | .geq=>if k=k' then some (.bool (decide (b≤a))) else none
theorem o_7r {op:BinOp} {k k':IntKind} {a b:Int} {d:D} (h:evInt op k a k' b=some d) {K:D→Prop} (hK:K d):binInt op k a k' b K:=by
 unfold evInt at h
 unfold binInt
 cases op<;>simp only [Option.ite_none_right_eq_some,Option.some.injEq] at h ⊢<;>obtain ⟨h1,h2⟩:=h<;>subst h2<;>exact ⟨h1,hK⟩
def evStr (op:BinOp) (a b:ByteArray):Option D :=
 match op with
 | .add=>if a.size+b.size≤9223372036854775807 then some (.str (a++b)) else none
 | .eql=>some (.bool (decide (a.toList=b.toList)))
 | .neq=>some (.bool (!decide (a.toList=b.toList)))
 | _=>none
theorem o_7s {op:BinOp} {a b:ByteArray} {d:D} (h:evStr op a b=some d) {K:D→Prop} (hK:K d):binStr op a b K:=by
 have e:(a.toList==b.toList)=decide (a.toList=b.toList):=by
  by_cases h:a.toList=b.toList<;>simp [h]
 unfold evStr at h
 unfold binStr
 cases op<;>simp only [Option.ite_none_right_eq_some,Option.some.injEq,reduceCtorEq] at h ⊢
 ·obtain ⟨h1,h2⟩:=h;subst h2;exact ⟨h1,hK⟩
 ·subst h;rw [e];exact hK
 ·subst h;rw [e];exact hK
def evSlice (s:Nat) (x:V) (a b:Option Int) (mx:Option (Option Int)):Option V :=
 match x,a,b,mx with
 | .d (.sl n l),some a,some b,none=>if 0≤a∧a≤b∧b≤n then some (.d (.sl (b-a).toNat ((l.drop (a.toNat*s)).take ((b-a).toNat*s)))) else none
 | .d (.sl n l),some a,some b,some (some c)=>if 0≤a∧a≤b∧b≤c∧c≤n then (if a=0∧c=0 then some (.d .sl0) else if a=0∧b=c then some (.d (.slf b.toNat (l.take (b.toNat*s)))) else some (.d (.sl (b-a).toNat ((l.drop (a.toNat*s)).take ((b-a).toNat*s))))) else none
 | .own m s' n,some a,some b,none=>if s'=s∧0≤a∧a≤b∧b≤n then some (.row m (a.toNat*s) (b-a).toNat) else none
 | .row m o n,some a,some b,none=>if 0≤a∧a≤b∧b≤n then some (.row m (o+a.toNat*s) (b-a).toNat) else none
 | .d .nilsl,some a,some b,none=>if a=0∧b=0 then some (.d .nilsl) else none
 | _,_,_,_=>none
theorem o_7t {s:Nat} {x:V} {a b:Option Int} {mx:Option (Option Int)} {v:V} (h:evSlice s x a b mx=some v) {K:V→Prop} (hK:K v):sliceS s x a b mx K:=by
 unfold evSlice at h
 split at h<;>first
  | (cases h;done)
  | (simp only [Option.ite_none_right_eq_some,Option.some.injEq] at h;obtain ⟨h1,h2⟩:=h;subst h2;exact ⟨h1,hK⟩)
  | (split at h
     ·rename_i h1
      refine ⟨h1,?_⟩
      split at h
      ·rename_i h2;rw [if_pos h2];cases h;exact hK
      ·rename_i h2
       rw [if_neg h2]
       split at h
       ·rename_i h3;rw [if_pos h3];cases h;exact hK
       ·rename_i h3;rw [if_neg h3];cases h;exact hK
     ·cases h)

section
variable (T:List V) (H:List (Option Ob)) (cl:FuncId→List V→List (Option Ob)→Option R4) (mt:TypeId→String→Option FuncId)
def A.ev:A→Option R4
 | .mv x=>some (x.ev T,H,[],[])
 | .pick c a b=>match c.ev T with
  | .d (.bool t)=>some (if t then a.ev T else b.ev T,H,[],[])
  | _=>none
 | .new e z=>some (.p H.length 0,H++[some ⟨e,z.map .d⟩],[],[H.length])
 | .box e x=>match (x.ev T).cells? with
  | some c=>some (.p H.length 0,H++[some ⟨e,c⟩],[],[H.length])
  | none=>none
 | .build z ps=>match fillV (z.map .d) (ps.map fun p=>(p.1,p.2.1,p.2.2.ev T)) with
  | some c=>some (mkAgg c,H,[],[])
  | none=>none
 | .bsl e s n z ps=>match fillV (z.map .d) (ps.map fun p=>(p.1,p.2.1,p.2.2.ev T)) with
  | some c=>some (.own H.length s n,H++[some ⟨e,c⟩],[],[H.length])
  | none=>none
 | .load g s x=>match x.ev T with
  | .p n off=>match H.getD n none with
   | some ob=>if ob.T<1000000 then (if g then (if off+s≤ob.c.length then some (mkAgg ((ob.c.drop off).take s),H,[n],[]) else none) else (if off<ob.c.length then some (ob.c.getD off .junk,H,[n],[]) else none)) else none
   | none=>none
  | .ia l off=>if g then (if off+s≤l.length then some (.d (.agg ((l.drop off).take s)),H,[],[]) else none) else (if off<l.length then some (.d (l.getD off default),H,[],[]) else none)
  | _=>none
 | .store s x y=>match x.ev T,(y.ev T).cells? with
  | .p n off,some c=>match H.getD n none with
   | some ob=>if ob.T<1000000 then (if c.length=s∧off+s≤ob.c.length then some (.junk,H.set n (some ⟨ob.T,setMany ob.c off c⟩),[],[n]) else none) else none
   | none=>none
  | _,_=>none
 | .chk x=>match x.ev T with
  | .p n o=>some (.p n o,H,[],[])
  | .ia l o=>some (.ia l o,H,[],[])
  | .fn (.func f) c=>some (.fn (.func f) c,H,[],[])
  | .d (.ifc t d)=>some (.d (.ifc t d),H,[],[])
  | _=>none
 | .bin op x y=>match x.ev T,y.ev T with
  | .d (.int k a),.d (.int k' b)=>(evInt op k a k' b).map fun d=>(.d d,H,[],[])
  | .d (.str a),.d (.str b)=>(evStr op a b).map fun d=>(.d d,H,[],[])
  | _,_=>none
 | .beq neg x y=>match x.ev T,y.ev T with
  | .d (.bool a),.d (.bool b)=>some (.d (.bool (if neg then a != b else a==b)),H,[],[])
  | _,_=>none
 | .un op x=>match op,x.ev T with
  | .not,.d (.bool b)=>some (.d (.bool (!b)),H,[],[])
  | .neg,.d (.int k n)=>some (.d (.int k (k.wrap (0-n))),H,[],[])
  | .xor,.d (.int k n)=>some (.d (.int k (bits .xor k (if k.signed then -1 else k.max) n)),H,[],[])
  | _,_=>none
 | .conv k x=>match x.ev T with
  | .d (.int _ n)=>some (.d (.int k (k.wrap n)),H,[],[])
  | _=>none
 | .cstr x=>match x.ev T with
  | .d (.str b)=>some (.d (.str b),H,[],[])
  | _=>none
 | .ifc t x=>match x.ev T with
  | .d x=>some (.d (.ifc t x),H,[],[])
  | _=>none
 | .mkf f cs=>some (.fn f (cs.map (X.ev T)),H,[],[])
 | .mksl e s bytes z n c=>match n.ev T,c.ev T with
  | .d (.int _ a),.d (.int _ b)=>if 0≤a∧a=b∧(bytes:Int)*a≤281474976710656∧a≤281474976710656∧0<s then some (.own H.length s a.toNat,H++[some ⟨e,repl a.toNat z⟩],[],[H.length]) else none
  | _,_=>none
 | .slice s x lo hi mx=>(evSlice s (x.ev T) (bnd T 0 lo) (hiOf T (x.ev T) mx.isSome hi) (mx.map fun c=>intOf? (c.ev T))).map fun v=>(v,H,[],[])
 | .fa off x=>match x.ev T with
  | .p n o=>some (.p n (o+off),H,[],[])
  | .ia l o=>some (.ia l (o+off),H,[],[])
  | _=>none
 | .fld g off s x=>match x.ev T with
  | .d (.agg l)=>if g then (if off+s≤l.length then some (.d (.agg ((l.drop off).take s)),H,[],[]) else none) else (if off<l.length then some (.d (l.getD off default),H,[],[]) else none)
  | .agg l=>if g then (if off+s≤l.length then some (mkAgg ((l.drop off).take s),H,[],[]) else none) else (if off<l.length then some (l.getD off .junk,H,[],[]) else none)
  | _=>none
 | .ix s x i=>match x.ev T,i.ev T with
  | .d (.sl n l),.d (.int _ a)=>if 0≤a∧a<n∧a.toNat*s<l.length then some (.ia l (a.toNat*s),H,[],[]) else none
  | .own m s' n,.d (.int _ a)=>if 0≤a∧a<n∧s'=s then some (.p m (a.toNat*s),H,[],[]) else none
  | .row m o n,.d (.int _ a)=>if 0≤a∧a<n then some (.p m (o+a.toNat*s),H,[],[]) else none
  | _,_=>none
 | .ext x i=>match x.ev T with
  | .tup l=>if i<l.length then some (l.getD i .junk,H,[],[]) else none
  | _=>none
 | .call f xs=>cl f (xs.map (X.ev T)) H
 | .callv f xs=>match f.ev T with
  | .fn (.func g) caps=>cl g (xs.map (X.ev T)++caps) H
  | _=>none
 | .inv r name xs=>match r.ev T with
  | .d (.ifc t d)=>match mt t name with
   | some g=>cl g (.d d::xs.map (X.ev T)) H
   | none=>none
  | _=>none
 | .len x=>match lenV (x.ev T) with
  | some n=>some (.d (.int .i64 n),H,[],[])
  | none=>none
 | .lens x=>match x.ev T with
  | .d (.str s)=>some (.d (.int .i64 s.size),H,[],[])
  | _=>none
 | .mm mx xs=>match minmaxI mx (xs.map (X.ev T)) with
  | some (k,n)=>some (.d (.int k n),H,[],[])
  | none=>none
 | .app e s bytes x y=>match srcV s H (y.ev T) with
  | some (k,c,rd)=>match x.ev T with
   | .d .nilsl=>if k=0 then (if c.length=0 then some (.d .nilsl,H,rd,[]) else none) else (if 0<s∧0<bytes∧c.length=k*s∧k*bytes≤140737488355328 then some (.own H.length s k,H++[some ⟨e,c⟩],rd,[H.length]) else none)
   | .d .sl0=>if k=0 then (if c.length=0 then some (.d .sl0,H,rd,[]) else none) else (if 0<s∧0<bytes∧c.length=k*s∧k*bytes≤140737488355328 then some (.own H.length s k,H++[some ⟨e,c⟩],rd,[H.length]) else none)
   | .d (.slf q l)=>if 0<k∧0<s∧0<bytes∧l.length=q*s∧c.length=k*s∧(q+k)*bytes≤140737488355328 then some (.own H.length s (q+k),H++[some ⟨e,l.map .d++c⟩],rd,[H.length]) else none
   | .own n s' q=>match H.getD n none with
    | some ob=>if s'=s∧0<s∧0<bytes∧ob.T=e∧ob.c.length=q*s∧c.length=k*s∧(q+k)*bytes≤140737488355328 then some (.own H.length s (q+k),H.set n none++[some ⟨e,ob.c++c⟩],rd,[n,H.length]) else none
    | none=>none
   | _=>none
  | none=>none
 | .capn x=>match x.ev T with
  | .d .nilsl=>some (.d (.int .i64 0),H,[],[])
  | _=>none
 | .cpy s x y=>match srcV s H (y.ev T),dstV s (x.ev T) with
  | some (k,c,rd),some (n,off,q)=>match H.getD n none with
   | some ob=>if ob.T<1000000 then (if k≤q∧c.length=k*s∧off+k*s≤ob.c.length then some (.d (.int .i64 k),H.set n (some ⟨ob.T,setMany ob.c off c⟩),rd,[n]) else none) else none
   | none=>none
  | _,_=>none
 | .bsl0=>some (.d .sl0,H,[],[])
 | .ixa n s x i=>match x.ev T,i.ev T with
  | .p m o,.d (.int _ a)=>if 0≤a∧a<n then some (.p m (o+a.toNat*s),H,[],[]) else none
  | .ia l o,.d (.int _ a)=>if 0≤a∧a<n then some (.ia l (o+a.toNat*s),H,[],[]) else none
  | _,_=>none
 | .gstr x i=>match x.ev T,i.ev T with
  | .d (.str b),.d (.int _ a)=>if 0≤a∧a.toNat<b.size then some (.d (.int .u8 (b.data.toList.getD a.toNat 0).toNat),H,[],[]) else none
  | _,_=>none
 | .sstr x lo hi=>match x.ev T with
  | .d (.str s)=>match bnd T 0 lo,bnd T s.size hi with
   | some a,some b=>if 0≤a∧a≤b∧b≤s.size then some (.d (.str (s.extract a.toNat b.toNat)),H,[],[]) else none
   | _,_=>none
  | _=>none
 | .gix l n s i=>match i.ev T with
  | .d (.int _ a)=>if 0≤a∧a<n then some (.ia l (a.toNat*s),H,[],[]) else none
  | _=>none
 | .bstr x=>match srcV 1 H (x.ev T) with
  | some (k,c,rd)=>match intsV c with
   | some ns=>if c.length=k then some (.d (.str (strOf ns)),H,rd,[]) else none
   | none=>none
  | none=>none
 | .sla n s x lo hi=>match x.ev T,bnd T 0 lo,bnd T n hi with
  | .p m o,some a,some b=>if 0≤a∧a≤b∧b≤n∧n≤140737488355328 then some (.row m (o+a.toNat*s) (b-a).toNat,H,[],[]) else none
  | _,_,_=>none
 | .snl neg x=>match x.ev T with
  | .d .nilsl=>some (.d (.bool (!neg)),H,[],[])
  | .d (.sl n _)=>if 0<n then some (.d (.bool neg),H,[],[]) else none
  | .own _ _ _=>some (.d (.bool neg),H,[],[])
  | .d .sle=>some (.d (.bool neg),H,[],[])
  | .row _ _ _=>some (.d (.bool neg),H,[],[])
  | _=>none
 | .inl neg x=>match x.ev T with
  | .d .nilifc=>some (.d (.bool (!neg)),H,[],[])
  | .d (.ifc _ _)=>some (.d (.bool neg),H,[],[])
  | _=>none
 | .pnl neg x=>match x.ev T with
  | .d .nilp=>some (.d (.bool (!neg)),H,[],[])
  | .p _ _=>some (.d (.bool neg),H,[],[])
  | .ia _ _=>some (.d (.bool neg),H,[],[])
  | _=>none
 | .aeq neg ks x y=>match x.ev T,y.ev T with
  | .d (.agg l),.d (.agg r)=>match eqKs ks l r with
   | some b=>some (.d (.bool (if neg then !b else b)),H,[],[])
   | none=>none
  | _,_=>none
 | .appz e s bytes z x y=>match x.ev T,y.ev T with
  | .d .nilsl,.d (.int .i64 k)=>if 0<k∧0<s∧0<bytes∧k*bytes≤140737488355328 then some (.own H.length s k.toNat,H++[some ⟨e,repl k.toNat z⟩],[],[H.length]) else none
  | _,_=>none
 | .cut s x hi=>match x.ev T,hi.ev T with
  | .own n s' q,.d (.int _ b)=>match H.getD n none with
   | some ob=>if s'=s∧0≤b∧b≤q∧ob.T<1000000 then some (.own n s b.toNat,H.set n (some ⟨ob.T,ob.c.take (b.toNat*s)⟩),[],[n]) else none
   | none=>none
  | _,_=>none
 | .ixv n s q x i=>match x.ev T,i.ev T with
  | .d (.agg l),.d (.int _ a)=>if q then (if 0≤a∧a<n∧a.toNat*s+s≤l.length then some (.d (.agg ((l.drop (a.toNat*s)).take s)),H,[],[]) else none) else (if 0≤a∧a<n∧a.toNat*s<l.length then some (.d (l.getD (a.toNat*s) default),H,[],[]) else none)
  | .agg l,.d (.int _ a)=>if q then (if 0≤a∧a<n∧a.toNat*s+s≤l.length then some (mkAgg ((l.drop (a.toNat*s)).take s),H,[],[]) else none) else (if 0≤a∧a<n∧a.toNat*s<l.length then some (l.getD (a.toNat*s) .junk,H,[],[]) else none)
  | _,_=>none
 | .newj t=>some (.p H.length 0,H++[some ⟨t,[.junk]⟩],[],[H.length])
 | .mkm t=>some (.mp H.length,H++[some ⟨t,[]⟩],[],[H.length])
 | .mget t ks vw g z x k=>match x.ev T,k.ev T with
  | .mp n,.d (.agg kl)=>match H.getD n none with
   | some ob=>if ob.T=t∧kl.length=ks.length then (match V.toDs ob.c with
    | some ds=>match mlook ks vw g z kl ds with
     | some y=>some (.d y,H,[n],[])
     | none=>none
    | none=>none) else none
   | none=>none
  | _,_=>none
 | .mput t ks vw g x k v=>match x.ev T,k.ev T,v.ev T with
  | .mp n,.d (.agg kl),.d y=>match H.getD n none with
   | some ob=>if ob.T=t∧kl.length=ks.length∧y.isAgg=g then (match V.toDs ob.c with
    | some ds=>if y.cells.length=vw∧ds.length%(ks.length+vw)=0 then (match mset ks vw kl y.cells ds with
     | some ds'=>some (.junk,H.set n (some ⟨t,ds'.map .d⟩),[],[n])
     | none=>none) else none
    | none=>none) else none
   | none=>none
  | _,_,_=>none
 | .ment t ks vw g z x k=>match x.ev T,k.ev T with
  | .mp n,.d (.agg kl)=>match H.getD n none with
   | some ob=>if ob.T=t∧kl.length=ks.length then (match V.toDs ob.c with
    | some ds=>if ds.length%(ks.length+vw)=0 then (match mentD ks vw g z kl ds with
     | some (y,j,ds')=>some (.tup [.d y,.d (.int .i64 j)],H.set n (some ⟨t,ds'.map .d⟩),[],[n])
     | none=>none) else none
    | none=>none) else none
   | none=>none
  | _,_=>none
 | .esto t ks vw g x s v=>match x.ev T,s.ev T,v.ev T with
  | .mp n,.d (.int .i64 j),.d y=>match H.getD n none with
   | some ob=>if ob.T=t∧y.isAgg=g then (match V.toDs ob.c with
    | some ds=>if y.cells.length=vw∧0≤j∧j.toNat<ds.length/(ks.length+vw) then some (.junk,H.set n (some ⟨t,(estoD ks.length vw j.toNat y.cells ds).map .d⟩),[],[n]) else none
    | none=>none) else none
   | none=>none
  | _,_,_=>none
 | .mrng t w x=>match x.ev T with
  | .mp n=>match H.getD n none with
   | some ob=>if ob.T=t then some (.p H.length 0,H++[some ⟨1000000,[.mp n,.d (.int .i64 (ob.c.length/w:Nat))]⟩],[n],[H.length]) else none
   | none=>none
  | _=>none
 | .mnx x=>match x.ev T with
  | .p n 0=>match H.getD n none with
   | some ob=>match iterV ob with
    | some (k,N,l)=>match H.getD k none with
     | some obk=>if 1000000<obk.T∧0<tagK obk.T∧obk.c.length/(tagK obk.T+tagV obk.T)=N then (match (List.range N).filter (fun i=>!l.contains i) with
      | []=>some (.tup [.d (.bool false)],H,[k,n],[])
      | [i]=>some (.tup [.d (.bool true),.junk,.junk],H.set n (some ⟨1000000,ob.c++[.d (.int .i64 i)]⟩),[k],[n])
      | _=>none) else none
     | none=>none
    | none=>none
   | none=>none
  | _=>none
 | .mety x=>match x.ev T with
  | .p n 0=>match H.getD n none with
   | some ob=>match iterV ob with
    | some (k,N,l)=>match H.getD k none with
     | some obk=>match V.toDs obk.c,l.getLast? with
      | some ds,some i=>if 1000000<obk.T∧0<tagK obk.T∧ds.length/(tagK obk.T+tagV obk.T)=N∧i<N∧(tagG obk.T=true∨tagV obk.T=1) then some (.tup [.d (.agg ((ds.drop (i*(tagK obk.T+tagV obk.T))).take (tagK obk.T))),.d (glD (tagG obk.T) ((ds.drop (i*(tagK obk.T+tagV obk.T)+tagK obk.T)).take (tagV obk.T)))],H,[k,n],[]) else none
      | _,_=>none
     | none=>none
    | none=>none
   | none=>none
  | _=>none
 | .bad=>none
end
set_option maxHeartbeats 4000000 in
theorem A.ev_ok {P:Program} {T:List V} {H:List (Option Ob)} {cl:FuncId→List V→List (Option Ob)→Option R4} {mt:TypeId→String→Option FuncId}
  (hcl:∀f args H r,cl f args H=some r→∀K,R4.then r K→CallS P f args H K) (hmt:∀t name g,mt t name=some g→MethOK P t name g) (a:A) (r:R4) (h:A.ev T H cl mt a=some r) (K:V→List (Option Ob)→List Nat→List Nat→Prop) (hK:R4.then r K):A.step P T H K a:=by
 unfold R4.then at hK
 cases a
 case mnx x =>
  simp only [A.ev] at h
  simp only [A.step]
  repeat' (split at h)
  all_goals first
   | (cases h;done)
   | skip
  all_goals first
   | (rename_i hc x0 i hf
      cases h
      have hm:∀z,z∈[i]→_:=fun z hz=>List.mem_filter.1 (hf.symm▸hz)
      have hs:∀z,_→z∈[i]:=fun z hz=>hf▸List.mem_filter.2 hz
      simp only [*]
      refine ⟨by first | trivial | exact hc.1,by first | trivial | exact hc.2 | exact ⟨trivial,trivial⟩ | exact ⟨trivial,hc.2.2⟩,fun j hj hl=>?_,fun hall=>?_⟩
      ·have:=hs j ⟨List.mem_range.2 (by first | exact hj | exact hc.2.2▸hj),by simpa using hl⟩
       rw [List.mem_singleton] at this;subst this;first | exact hK | trivial
      ·have h2:=hm i (List.mem_singleton.2 rfl)
       exact absurd (hall i (by first | exact List.mem_range.1 h2.1 | exact hc.2.2▸List.mem_range.1 h2.1)) (by simpa using h2.2))
   | (rename_i hc x0 hf
      cases h
      have hs:∀z,_→z∈([]:List Nat):=fun z hz=>hf▸List.mem_filter.2 hz
      simp only [*]
      refine ⟨by first | trivial | exact hc.1,by first | trivial | exact hc.2 | exact ⟨trivial,trivial⟩ | exact ⟨trivial,hc.2.2⟩,fun j hj hl=>?_,fun hall=>?_⟩
      ·exact absurd (hs j ⟨List.mem_range.2 (by first | exact hj | exact hc.2.2▸hj),by simpa using hl⟩) (by simp)
      ·first | exact hK | trivial)
 all_goals simp only [A.ev] at h
 all_goals simp only [A.step]
 all_goals first
  | (cases h;done)
  | (cases h;exact hK)
  | exact hcl _ _ _ _ h K hK
  | skip
 all_goals (repeat' (split at h))<;>first
  | (cases h;done)
  | (cases h;simp_all [need];done)
  | exact hcl _ _ _ _ h K hK
  | (simp_all [need];done)
  | (simp_all;exact hcl _ _ _ _ h K hK)
  | (simp_all;exact ⟨_,hmt _ _ _ (by assumption),hcl _ _ _ _ h K hK⟩)
  | (obtain ⟨d,hd,rfl⟩:=Option.map_eq_some_iff.1 h;exact o_7t hd hK)
  | (obtain ⟨d,hd,rfl⟩:=Option.map_eq_some_iff.1 h;simp only [*];exact o_7r hd hK)
  | (obtain ⟨d,hd,rfl⟩:=Option.map_eq_some_iff.1 h;simp only [*];exact o_7s hd hK)
  | (rename_i hx hy hc;cases h;rw [hx,hy];exact ⟨hc,hK⟩)
  | (simp only [*];exact hcl _ _ _ _ h K hK)
  | (simp only [*];exact ⟨_,hmt _ _ _ (by assumption),hcl _ _ _ _ h K hK⟩)

def bindL {α β:Type}:List α→(α→Option (List β))→Option (List β)
 | [],_=>some []
 | a::l,f=>match f a with
  | none=>none
  | some x=>match bindL l f with
   | none=>none
   | some y=>some (x++y)
theorem o_7u {α β:Type} {f:α→Option (List β)}:∀{l:List α} {ys:List β},bindL l f=some ys→∀a∈l,∃x,f a=some x∧∀b∈x,b∈ys
 | [],ys,h,a,ha=>absurd ha (by simp)
 | a0::l,ys,h,a,ha=>by
  unfold bindL at h
  split at h
  ·cases h
  ·rename_i x hx
   split at h
   ·cases h
   ·rename_i y hy
    cases h
    rcases List.mem_cons.1 ha with rfl | ha
    ·exact ⟨x,hx,fun b hb=>List.mem_append.2 (.inl hb)⟩
    ·obtain ⟨x',h1,h2⟩:=o_7u hy a ha
     exact ⟨x',h1,fun b hb=>List.mem_append.2 (.inr (h2 b hb))⟩
def A.evs (T:List V) (H:List (Option Ob)) (cl:FuncId→List V→List (Option Ob)→Option R4) (mt:TypeId→String→Option FuncId):A→Option (List R4)
 | .mnx x=>match x.ev T with
  | .p n 0=>match H.getD n none with
   | some ob=>match iterV ob with
    | some (k,N,l)=>match H.getD k none with
     | some obk=>if 1000000<obk.T∧0<tagK obk.T∧obk.c.length/(tagK obk.T+tagV obk.T)=N then (match (List.range N).filter (fun i=>!l.contains i) with
      | []=>some [(.tup [.d (.bool false)],H,[k,n],[])]
      | i::is=>some ((i::is).map fun (i:Nat)=>(.tup [.d (.bool true),.junk,.junk],H.set n (some ⟨1000000,ob.c++[.d (.int .i64 i)]⟩),[k],[n]))) else none
     | none=>none
    | none=>none
   | none=>none
  | _=>none
 | a=>(A.ev T H cl mt a).map fun r=>[r]
set_option maxHeartbeats 4000000 in
theorem A.evs_ok {P:Program} {T:List V} {H:List (Option Ob)} {cl:FuncId→List V→List (Option Ob)→Option R4} {mt:TypeId→String→Option FuncId}
  (hcl:∀f args H r,cl f args H=some r→∀K,R4.then r K→CallS P f args H K) (hmt:∀t name g,mt t name=some g→MethOK P t name g) (a:A) (rs:List R4) (h:A.evs T H cl mt a=some rs) (K:V→List (Option Ob)→List Nat→List Nat→Prop) (hK:∀r∈rs,R4.then r K):A.step P T H K a:=by
 cases a
 case mnx x =>
  simp only [A.evs] at h
  simp only [A.step]
  repeat' (split at h)
  all_goals first
   | (cases h;done)
   | skip
  all_goals first
   | (rename_i hc x0 hf
      cases h
      have hK:=hK _ (List.mem_singleton.2 rfl)
      unfold R4.then at hK
      have hs:∀z,_→z∈([]:List Nat):=fun z hz=>hf▸List.mem_filter.2 hz
      simp only [*]
      refine ⟨by first | trivial | exact hc.1,by first | trivial | exact hc.2 | exact ⟨trivial,trivial⟩ | exact ⟨trivial,hc.2.2⟩,fun j hj hl=>?_,fun hall=>?_⟩
      ·exact absurd (hs j ⟨List.mem_range.2 (by first | exact hj | exact hc.2.2▸hj),by simpa using hl⟩) (by simp)
      ·first | exact hK | trivial)
   | (rename_i hc x0 i is hf
      cases h
      have hm:∀z,z∈i::is→_:=fun z hz=>List.mem_filter.1 (hf.symm▸hz)
      have hs:∀z,_→z∈i::is:=fun z hz=>hf▸List.mem_filter.2 hz
      simp only [*]
      refine ⟨by first | trivial | exact hc.1,by first | trivial | exact hc.2 | exact ⟨trivial,trivial⟩ | exact ⟨trivial,hc.2.2⟩,fun j hj hl=>?_,fun hall=>?_⟩
      ·have h2:=hs j ⟨List.mem_range.2 (by first | exact hj | exact hc.2.2▸hj),by simpa using hl⟩
       have h3:=hK _ (List.mem_map.2 ⟨j,h2,rfl⟩)
       unfold R4.then at h3
       first | exact h3 | trivial
      ·have h2:=hm i (List.mem_cons_self ..)
       exact absurd (hall i (by first | exact List.mem_range.1 h2.1 | exact hc.2.2▸List.mem_range.1 h2.1)) (by simpa using h2.2))
 all_goals
  simp only [A.evs,Option.map_eq_some_iff] at h
  obtain ⟨r,h1,h2⟩:=h
  cases h2
  exact A.ev_ok hcl hmt _ r h1 K (hK r (List.mem_singleton.2 rfl))

mutual
def D.beq:D→D→Bool
 | .int k n,.int k' n'=>decide (k=k')&&decide (n=n')
 | .bool a,.bool b=>decide (a=b)
 | .str a,.str b=>decide (a=b)
 | .agg l,.agg r=>D.beqs l r
 | .sl n l,.sl m r=>Nat.beq n m&&D.beqs l r
 | .slf n l,.slf m r=>Nat.beq n m&&D.beqs l r
 | .nilsl,.nilsl | .sl0,.sl0 | .sle,.sle | .nilifc,.nilifc | .nilp,.nilp | .nilfn,.nilfn=>true
 | .ifc t d,.ifc u e=>Nat.beq t u&&D.beq d e
 | .ptr l o,.ptr r p=>Nat.beq o p&&D.beqs l r
 | _,_=>false
def D.beqs:List D→List D→Bool
 | [],[]=>true
 | a::l,b::r=>D.beq a b&&D.beqs l r
 | _,_=>false
end
mutual
theorem D.beq_ok:∀(a b:D),D.beq a b=true→a=b
 | .int _ _,b,h=>by cases b<;>simp_all [D.beq]
 | .bool _,b,h=>by cases b<;>simp_all [D.beq]
 | .str _,b,h=>by cases b<;>simp_all [D.beq]
 | .agg l,b,h=>by
  cases b with
  | agg r=>rw [D.beqs_ok l r (by simpa only [D.beq] using h)]
  | _=>simp [D.beq] at h
 | .sl n l,b,h=>by
  cases b with
  | sl m r=>simp only [D.beq,Bool.and_eq_true] at h;rw [D.beqs_ok l r h.2,Nat.eq_of_beq_eq_true h.1]
  | _=>simp [D.beq] at h
 | .slf n l,b,h=>by
  cases b with
  | slf m r=>simp only [D.beq,Bool.and_eq_true] at h;rw [D.beqs_ok l r h.2,Nat.eq_of_beq_eq_true h.1]
  | _=>simp [D.beq] at h
 | .nilsl,b,h=>by cases b<;>simp_all [D.beq]
 | .sl0,b,h=>by cases b<;>simp_all [D.beq]
 | .sle,b,h=>by cases b<;>simp_all [D.beq]
 | .nilifc,b,h=>by cases b<;>simp_all [D.beq]
 | .nilp,b,h=>by cases b<;>simp_all [D.beq]
 | .nilfn,b,h=>by cases b<;>simp_all [D.beq]
 | .ifc t d,b,h=>by
  cases b with
  | ifc u e=>simp only [D.beq,Bool.and_eq_true] at h;rw [D.beq_ok d e h.2,Nat.eq_of_beq_eq_true h.1]
  | _=>simp [D.beq] at h
 | .ptr l o,b,h=>by
  cases b with
  | ptr r p=>simp only [D.beq,Bool.and_eq_true] at h;rw [D.beqs_ok l r h.2,Nat.eq_of_beq_eq_true h.1]
  | _=>simp [D.beq] at h
theorem D.beqs_ok:∀(l r:List D),D.beqs l r=true→l=r
 | [],r,h=>by cases r<;>simp_all [D.beqs]
 | a::l,r,h=>by
  cases r with
  | nil=>simp [D.beqs] at h
  | cons b r=>simp only [D.beqs,Bool.and_eq_true] at h;rw [D.beq_ok a b h.1,D.beqs_ok l r h.2]
end
mutual
def V.beq:V→V→Bool
 | .d a,.d b=>D.beq a b
 | .agg l,.agg r=>V.beqs l r
 | .tup l,.tup r=>V.beqs l r
 | .p n o,.p m q=>Nat.beq n m&&Nat.beq o q
 | .row n o k,.row m q j=>Nat.beq n m&&Nat.beq o q&&Nat.beq k j
 | .own n o k,.own m q j=>Nat.beq n m&&Nat.beq o q&&Nat.beq k j
 | .mp n,.mp m=>Nat.beq n m
 | .junk,.junk=>true
 | _,_=>false
def V.beqs:List V→List V→Bool
 | [],[]=>true
 | a::l,b::r=>V.beq a b&&V.beqs l r
 | _,_=>false
end
mutual
theorem V.beq_ok:∀(a b:V),V.beq a b=true→a=b
 | .d x,b,h=>by
  cases b with
  | d y=>rw [D.beq_ok x y (by simpa only [V.beq] using h)]
  | _=>simp [V.beq] at h
 | .agg l,b,h=>by
  cases b with
  | agg r=>rw [V.beqs_ok l r (by simpa only [V.beq] using h)]
  | _=>simp [V.beq] at h
 | .tup l,b,h=>by
  cases b with
  | tup r=>rw [V.beqs_ok l r (by simpa only [V.beq] using h)]
  | _=>simp [V.beq] at h
 | .p _ _,b,h=>by cases b<;>simp_all [V.beq]
 | .row _ _ _,b,h=>by cases b<;>simp_all [V.beq]
 | .own _ _ _,b,h=>by cases b<;>simp_all [V.beq]
 | .mp _,b,h=>by cases b<;>simp_all [V.beq]
 | .fn _ _,b,h=>by cases b<;>simp [V.beq] at h
 | .junk,b,h=>by cases b<;>simp_all [V.beq]
theorem V.beqs_ok:∀(l r:List V),V.beqs l r=true→l=r
 | [],r,h=>by cases r<;>simp_all [V.beqs]
 | a::l,r,h=>by
  cases r with
  | nil=>simp [V.beqs] at h
  | cons b r=>simp only [V.beqs,Bool.and_eq_true] at h;rw [V.beq_ok a b h.1,V.beqs_ok l r h.2]
end
def obsB:List Ob→List Ob→Bool
 | [],[]=>true
 | a::l,b::r=>Nat.beq a.T b.T&&V.beqs a.c b.c&&obsB l r
 | _,_=>false
theorem o_7v:∀{l r:List Ob},obsB l r=true→l=r
 | [],[],_=>rfl
 | ⟨t,c⟩::l,⟨u,d⟩::r,h=>by
  simp only [obsB,Bool.and_eq_true] at h
  rw [Nat.eq_of_beq_eq_true h.1.1,V.beqs_ok _ _ h.1.2,o_7v h.2]
 | [],_::_,h=>by simp [obsB] at h
 | _::_,[],h=>by simp [obsB] at h

mutual
def V.names:V→List Nat
 | .d _ | .junk=>[]
 | .agg l | .tup l | .fn _ l=>V.namess l
 | .p n _ | .row n _ _ | .own n _ _ | .mp n=>[n]
def V.namess:List V→List Nat
 | []=>[]
 | x::l=>x.names++V.namess l
end

mutual
def V.strd (n:Nat):V→Nat
 | .own k s _=>if k=n then s else 0
 | .agg l | .tup l | .fn _ l=>V.strds n l
 | _=>0
def V.strds (n:Nat):List V→Nat
 | []=>0
 | x::l=>match x.strd n with
  | 0=>V.strds n l
  | s=>s
end
def strdH (n:Nat):List (Option Ob)→Nat
 | []=>1
 | some ob::l=>(match V.strds n ob.c with
  | 0=>strdH n l
  | s=>s)
 | none::l=>strdH n l
def fz1 (n:Nat) (r:List V×List (Option Ob)):List V×List (Option Ob):=match r.2.getD n none with
 | some ob=>match Nat.blt ob.T 1000000,V.toDs ob.c with
  | true,some ds =>
   let s:=match V.strds n r.1 with
    | 0=>strdH n r.2
    | s=>s
   (r.1.map (V.frz n s ds),frzH n s ds r.2)
  | _,_=>r
 | none=>r
def fzAll:List Nat→List V×List (Option Ob)→List V×List (Option Ob)
 | [],r=>r
 | n::l,r=>fzAll l (fz1 n r)
theorem o_7w {P:Program} {L:Nat} {c:C} {Q:Exit→List V→List (Option Ob)→Prop} (n:Nat) (r:List V×List (Option Ob)) (h:AW P L c Q (fz1 n r).1 (fz1 n r).2):AW P L c Q r.1 r.2:=by
 unfold fz1 at h
 split at h
 ·rename_i ob hn
  split at h
  ·rename_i ds hT hd
   exact AW.freeze n _ ob ds hn (V.toDs_eq hd) h hT
  ·exact h
 ·exact h
theorem o_7x {P:Program} {L:Nat} {c:C} {Q:Exit→List V→List (Option Ob)→Prop}:∀(l:List Nat) (r:List V×List (Option Ob)),AW P L c Q (fzAll l r).1 (fzAll l r).2→AW P L c Q r.1 r.2
 | [],r,h=>h
 | n::l,r,h=>o_7w n r (o_7x l _ h)
def V.norm1:V→V
 | .agg l=>mkAgg l
 | x=>x
def V.norm:V→V
 | .agg l=>mkAgg l
 | .tup l=>.tup (l.map V.norm1)
 | x=>x
theorem V.norm1_sub (x:V):Sub1 x x.norm1:=fun m v h=>by
 cases x with
 | agg l =>
  unfold V.rep at h
  obtain ⟨vs,rfl,h1,h2⟩:=h
  exact o_3 h2 h1
 | _=>exact h
theorem V.norms_sub:∀(l:List V) (m:Mem) (vs:List Value),V.reps m l vs→V.reps m (l.map V.norm1) vs
 | [],m,vs,h=>h
 | x::l,m,vs,h=>by
  unfold V.reps at h
  obtain ⟨v,r,rfl,h1,h2⟩:=h
  rw [List.map_cons]
  unfold V.reps
  exact ⟨v,r,rfl,V.norm1_sub x m v h1,V.norms_sub l m r h2⟩
theorem V.norm_sub (x:V):Sub1 x x.norm:=fun m v h=>by
 cases x with
 | agg l=>exact V.norm1_sub _ m v h
 | tup l =>
  unfold V.norm
  unfold V.rep at h ⊢
  obtain ⟨vs,h1,h2⟩:=h
  exact ⟨vs,h1,V.norms_sub l m vs h2⟩
 | _=>exact h

section
variable (cl:FuncId→List V→List (Option Ob)→Option R4) (mt:TypeId→String→Option FuncId)
def evOps (draw:Bool):List O→List E→List V→List (Option Ob)→Option (List (List V×List (Option Ob)))
 | [],tr,T,H=>if draw then (if okTrace tr=true then some [(T,H)] else none) else some [(T,H)]
 | o::os,tr,T,H=>match o.g with
  | none=>match A.evs T H cl mt o.a with
   | some rs=>bindL rs fun r=>evOps draw os (⟨o.a.slots,o.dst,r.2.2.1,r.2.2.2,o.after⟩::tr) (putT T o.dst r.1) r.2.1
   | none=>none
  | some (s,w)=>match T.getD s .junk with
   | .d (.bool b)=>if b=w then (match A.evs T H cl mt o.a with
     | some rs=>bindL rs fun r=>evOps draw os (⟨s::o.a.slots,o.dst,r.2.2.1,r.2.2.2,o.after⟩::tr) (putT T o.dst r.1) r.2.1
     | none=>none) else evOps draw os (⟨[s],o.dst,[],[],o.after⟩::tr) (putT T o.dst (.tup [])) H
   | .tup []=>evOps draw os (⟨[s],o.dst,[],[],o.after⟩::tr) (putT T o.dst (.tup [])) H
   | _=>none
abbrev Out:=Exit×List V×List (Option Ob)
def Out.blk (id:Nat):Out→Out
 | (.exit j,T,H)=>if j=id then (.normal,T,H) else (.exit j,T,H)
 | o=>o
variable (fz:Option (Nat×List Nat)) in
def evC:Nat→C→List V→List (Option Ob)→Option (List Out)
 | 0,_,_,_=>none
 | n+1,c,T,H=>match c with
  | .skip=>some [(.normal,T,H)]
  | .ret=>match fz with
   | none=>some [(.ret,T,H)]
   | some (k,sl)=>let ex:=V.namess (sl.map fun i=>T.getD i .junk)
    let l:=((List.range H.length).drop k).filter fun n=>!ex.contains n
    let r:=fzAll (l++(l++l)) (T,H)
    some [(.ret,r.1,r.2)]
  | .exit i=>some [(.exit i,T,H)]
  | .seq a b=>match evC n a T H with
   | some l=>bindL l fun o=>match o.1 with
    | .normal=>evC n b o.2.1 o.2.2
    | _=>some [o]
   | none=>none
  | .cond c a b=>match c.ev T with
   | .d (.bool t)=>if t then evC n a T H else evC n b T H
   | _=>none
  | .block id a=>(evC n a T H).map fun l=>l.map (Out.blk id)
  | .loop a=>match evC n a T H with
   | some l=>bindL l fun o=>match o.1 with
    | .normal=>evC n (.loop a) o.2.1 o.2.2
    | _=>some [o]
   | none=>none
  | .reg draw ops=>(evOps cl mt draw ops [] T H).map fun l=>l.map fun r=>(.normal,r.1,r.2)
  | _=>none
end
section
variable {P:Program} {cl:FuncId→List V→List (Option Ob)→Option R4} {mt:TypeId→String→Option FuncId}
theorem o_7y (hcl:∀f args H r,cl f args H=some r→∀K,R4.then r K→CallS P f args H K) (hmt:∀t name g,mt t name=some g→MethOK P t name g) {draw:Bool}:∀(os:List O) (tr:List E) (T:List V) (H:List (Option Ob)) (outs:List (List V×List (Option Ob))),evOps cl mt draw os tr T H=some outs→∀K:List V→List (Option Ob)→Prop,(∀o∈outs,K o.1 o.2)→vops P draw K os tr T H
 | [],tr,T,H,outs,h,K,hK=>by
  unfold evOps at h
  unfold vops
  cases draw
  ·simp only [Bool.false_eq_true,if_false] at h ⊢
   cases h;exact hK (T,H) (List.mem_singleton.2 rfl)
  ·simp only [if_true] at h ⊢
   split at h
   ·rename_i ho
    cases h;exact ⟨ho,hK (T,H) (List.mem_singleton.2 rfl)⟩
   ·cases h
 | o::os,tr,T,H,outs,h,K,hK=>by
  have step:∀(tl:R4→List E) (rs:List R4),A.evs T H cl mt o.a=some rs→bindL rs (fun r=>evOps cl mt draw os (tl r) (putT T o.dst r.1) r.2.1)=some outs→A.step P T H (fun x H' rd wr=>vops P draw K os (tl (x,H',rd,wr)) (putT T o.dst x) H') o.a:=fun tl rs hr hb=>by
   refine A.evs_ok hcl hmt o.a rs hr _ fun r hr'=>?_
   obtain ⟨x,hx,hsub⟩:=o_7u hb r hr'
   exact o_7y hcl hmt os _ _ _ x hx K fun o ho=>hK o (hsub o ho)
  unfold evOps at h
  unfold vops
  cases hg:o.g with
  | none =>
   rw [hg] at h
   simp only at h ⊢
   split at h
   ·rename_i rs hr
    exact step (fun r=>⟨o.a.slots,o.dst,r.2.2.1,r.2.2.2,o.after⟩::tr) rs hr h
   ·cases h
  | some sw =>
   obtain ⟨s,w⟩:=sw
   rw [hg] at h
   simp only at h ⊢
   split at h
   ·rename_i b hb
    split at h
    ·rename_i hbw
     split at h
     ·rename_i rs hr
      rw [hb]
      exact ⟨fun _=>step (fun r=>⟨s::o.a.slots,o.dst,r.2.2.1,r.2.2.2,o.after⟩::tr) rs hr h,fun hn=>absurd hbw hn⟩
     ·cases h
    ·rename_i hbw
     rw [hb]
     exact ⟨fun hn=>absurd hn hbw,fun _=>o_7y hcl hmt os _ _ _ outs h K hK⟩
   ·rename_i hb
    rw [hb]
    exact o_7y hcl hmt os _ _ _ outs h K hK
   ·cases h
theorem o_7z (hmix:P.follows .mixedOrders=true) (hcl:∀f args H r,cl f args H=some r→∀K,R4.then r K→CallS P f args H K) (hmt:∀t name g,mt t name=some g→MethOK P t name g) {fz:Option (Nat×List Nat)} {L:Nat}:∀(n:Nat),(∀(c:C) (T:List V) (H:List (Option Ob)) (outs:List Out),evC cl mt fz n c T H=some outs→∀Q:Exit→List V→List (Option Ob)→Prop,(∀o∈outs,Q o.1 o.2.1 o.2.2)→AW P L c Q T H)∧(∀(a:C) (T:List V) (H:List (Option Ob)) (outs:List Out),evC cl mt fz n (.loop a) T H=some outs→∀Q:Exit→List V→List (Option Ob)→Prop,(∀o∈outs,Q o.1 o.2.1 o.2.2)→AWu P L a Q n T H)
 | 0=>⟨fun c T H outs h=>(by cases h),fun a T H outs h=>(by cases h)⟩
 | n+1=>by
  obtain ⟨ih,ihl⟩:=o_7z hmix hcl hmt (L:=L) n
  have hl:∀(a:C) (T:List V) (H:List (Option Ob)) (outs:List Out),evC cl mt fz (n+1) (.loop a) T H=some outs→∀Q:Exit→List V→List (Option Ob)→Prop,(∀o∈outs,Q o.1 o.2.1 o.2.2)→AWu P L a Q (n+1) T H:=by
   intro a T H outs h Q hQ
   simp only [evC] at h
   cases ha:evC cl mt fz n a T H with
   | none=>rw [ha] at h;cases h
   | some l =>
    rw [ha] at h
    simp only at h
    refine AWu.next (ih a T H l ha _ fun o ho=>?_)
    obtain ⟨x,hx,hsub⟩:=o_7u h o ho
    obtain ⟨e1,T1,H1⟩:=o
    cases e1 with
    | normal=>exact ihl a T1 H1 x hx Q fun o ho=>hQ o (hsub o ho)
    | _=>cases hx;exact hQ _ (hsub _ (List.mem_singleton.2 rfl))
  have one:∀{o:Out} {outs:List Out} {Q:Exit→List V→List (Option Ob)→Prop},some [o]=some outs→(∀o∈outs,Q o.1 o.2.1 o.2.2)→Q o.1 o.2.1 o.2.2:=fun h hQ=>by cases h;exact hQ _ (List.mem_singleton.2 rfl)
  refine ⟨fun c T H outs h Q hQ=>?_,hl⟩
  cases c with
  | skip=>exact AW.skip (one h hQ)
  | ret =>
   simp only [evC] at h
   split at h
   ·exact AW.ret (one h hQ)
   ·exact o_7x _ (T,H) (AW.ret (one h hQ))
  | exit i=>exact AW.exit (one h hQ)
  | seq a b =>
   simp only [evC] at h
   refine AW.seq ?_
   cases ha:evC cl mt fz n a T H with
   | none=>rw [ha] at h;cases h
   | some l =>
    rw [ha] at h
    simp only at h
    refine ih a T H l ha _ fun o ho=>?_
    obtain ⟨x,hx,hsub⟩:=o_7u h o ho
    obtain ⟨e1,T1,H1⟩:=o
    cases e1 with
    | normal=>exact ih b T1 H1 x hx Q fun o ho=>hQ o (hsub o ho)
    | _=>cases hx;exact hQ _ (hsub _ (List.mem_singleton.2 rfl))
  | cond c a b =>
   simp only [evC] at h
   split at h
   ·rename_i t ht
    refine AW.cond ht (fun hh=>?_) (fun hh=>?_)
    ·subst hh;exact ih a T H outs h Q hQ
    ·subst hh;exact ih b T H outs h Q hQ
   ·cases h
  | block id a =>
   simp only [evC,Option.map_eq_some_iff] at h
   obtain ⟨l,ha,h2⟩:=h
   subst h2
   refine AW.block (ih a T H l ha _ fun o ho=>?_)
   have hq:=hQ _ (List.mem_map.2 ⟨o,ho,rfl⟩)
   obtain ⟨e1,T1,H1⟩:=o
   cases e1 with
   | exit j =>
    simp only [Out.blk] at hq
    simp only [blockQ]
    split at hq
    ·rename_i hj;rw [if_pos hj];exact hq
    ·rename_i hj;rw [if_neg hj];exact hq
   | _=>exact hq
  | loop a=>exact AW.rounds (n+1) (hl a T H outs h Q hQ)
  | reg draw ops =>
   simp only [evC,Option.map_eq_some_iff] at h
   obtain ⟨l,h1,h2⟩:=h
   subst h2
   exact AW.reg hmix (o_7y hcl hmt ops [] T H l h1 _ fun o ho=>hQ _ (List.mem_map.2 ⟨o,ho,rfl⟩))
  | _=>cases h
theorem o_80 (hmix:P.follows .mixedOrders=true) (hcl:∀f args H r,cl f args H=some r→∀K,R4.then r K→CallS P f args H K) (hmt:∀t name g,mt t name=some g→MethOK P t name g) {fz:Option (Nat×List Nat)} {L n:Nat} {c:C} {T:List V} {H:List (Option Ob)} {outs:List Out} (h:evC cl mt fz n c T H=some outs) {Q:Exit→List V→List (Option Ob)→Prop} (hQ:∀o∈outs,Q o.1 o.2.1 o.2.2):AW P L c Q T H :=
 (o_7z hmix hcl hmt n).1 c T H outs h Q hQ
end

def posOf (θ:List Nat) (n:Nat):Nat:=match θ with
 | []=>0
 | m::r=>if m=n then 0 else posOf r n+1
theorem o_81 {n:Nat}:∀{θ:List Nat},n∈θ→posOf θ n<θ.length∧θ.getD (posOf θ n) 0=n
 | m::r,h=>by
  unfold posOf
  by_cases e:m=n
  ·rw [if_pos e];exact ⟨by simp,by simpa using e⟩
  ·rw [if_neg e]
   obtain ⟨h1,h2⟩:=o_81 (θ:=r) (n:=n) (by
    rcases List.mem_cons.1 h with h | h
    ·exact absurd h.symm e
    ·exact h)
   exact ⟨by simp;omega,by simpa using h2⟩
def inNames (θ:List Nat) (l:List Nat):Bool:=l.all fun n=>θ.contains n
theorem o_82 {θ l:List Nat} (h:inNames θ l=true):∀n∈l,n∈θ:=fun n hn=>by
 have:=List.all_eq_true.1 h n hn
 simpa using this
mutual
theorem V.ren_back {θ:List Nat} {ρ:Nat→Nat} (hρ:∀n∈θ,ρ (posOf θ n)=n):∀(x:V),(∀n∈x.names,n∈θ)→(x.ren (posOf θ)).ren ρ=x
 | .d x,_=>rfl
 | .agg l,h=>by simp only [V.ren];rw [V.rens_back hρ l h]
 | .tup l,h=>by simp only [V.ren];rw [V.rens_back hρ l h]
 | .p n off,h=>by simp only [V.ren];rw [hρ n (h n (by simp [V.names]))]
 | .row n off len,h=>by simp only [V.ren];rw [hρ n (h n (by simp [V.names]))]
 | .own n s len,h=>by simp only [V.ren];rw [hρ n (h n (by simp [V.names]))]
 | .mp n,h=>by simp only [V.ren];rw [hρ n (h n (by simp [V.names]))]
 | .fn f l,h=>by simp only [V.ren];rw [V.rens_back hρ l h]
 | .junk,_=>rfl
theorem V.rens_back {θ:List Nat} {ρ:Nat→Nat} (hρ:∀n∈θ,ρ (posOf θ n)=n):∀(l:List V),(∀n∈V.namess l,n∈θ)→V.rens ρ (V.rens (posOf θ) l)=l
 | [],_=>rfl
 | x::l,h=>by
  simp only [V.rens]
  rw [V.ren_back hρ x fun n hn=>h n (by simp [V.namess,hn]),V.rens_back hρ l fun n hn=>h n (by simp [V.namess,hn])]
end
mutual
theorem V.low_pos {θ:List Nat}:∀(x:V),(∀n∈x.names,n∈θ)→(x.ren (posOf θ)).low θ.length=true
 | .d x,_=>rfl
 | .agg l,h=>by simp only [V.ren,V.low];exact V.lowl_pos l h
 | .tup l,h=>by simp only [V.ren,V.low];exact V.lowl_pos l h
 | .p n off,h=>by simp only [V.ren,V.low,decide_eq_true_eq];exact (o_81 (h n (by simp [V.names]))).1
 | .row n off len,h=>by simp only [V.ren,V.low,decide_eq_true_eq];exact (o_81 (h n (by simp [V.names]))).1
 | .own n s len,h=>by simp only [V.ren,V.low,decide_eq_true_eq];exact (o_81 (h n (by simp [V.names]))).1
 | .mp n,h=>by simp only [V.ren,V.low,decide_eq_true_eq];exact (o_81 (h n (by simp [V.names]))).1
 | .fn f l,h=>by simp only [V.ren,V.low];exact V.lowl_pos l h
 | .junk,_=>rfl
theorem V.lowl_pos {θ:List Nat}:∀(l:List V),(∀n∈V.namess l,n∈θ)→V.lowl θ.length (V.rens (posOf θ) l)=true
 | [],_=>rfl
 | x::l,h=>by
  simp only [V.rens,V.lowl,Bool.and_eq_true]
  exact ⟨V.low_pos x fun n hn=>h n (by simp [V.namess,hn]),V.lowl_pos l fun n hn=>h n (by simp [V.namess,hn])⟩
end
def reachN (H:List (Option Ob)):Nat→List Nat→List Nat→List Nat
 | 0,_,seen=>seen
 | _+1,[],seen=>seen
 | k+1,n::r,seen=>if seen.contains n then reachN H k r seen else match H.getD n none with
  | some ob=>reachN H k (V.namess ob.c++r) (seen++[n])
  | none=>reachN H k r (seen++[n])
def nodupB:List Nat→Bool
 | []=>true
 | n::l=>!l.contains n&&nodupB l
theorem o_83:∀{l:List Nat},nodupB l=true→l.Nodup
 | [],_=>by simp
 | n::l,h=>by
  simp only [nodupB,Bool.and_eq_true,Bool.not_eq_true',List.contains_eq_mem,decide_eq_false_iff_not] at h
  exact List.nodup_cons.2 ⟨h.1,o_83 h.2⟩
def obsOf (H:List (Option Ob)) (θ':List Nat):List Nat→Option (List Ob)
 | []=>some []
 | n::θ=>match H.getD n none,obsOf H θ' θ with
  | some ob,some l=>if inNames θ' (V.namess ob.c)=true then some (⟨ob.T,V.rens (posOf θ') ob.c⟩::l) else none
  | _,_=>none
theorem o_84 {H:List (Option Ob)} {θ':List Nat} {ρ:Nat→Nat} (hρ:∀n∈θ',ρ (posOf θ' n)=n):∀{θ:List Nat} {l:List Ob},obsOf H θ' θ=some l→obsAt θ'.length H ρ θ l∧l.length=θ.length
 | [],l,h=>by cases h;exact ⟨trivial,rfl⟩
 | n::θ,l,h=>by
  simp only [obsOf] at h
  split at h
  ·rename_i ob l' h1 h2
   split at h
   ·rename_i h3
    cases h
    obtain ⟨h4,h5⟩:=o_84 hρ h2
    refine ⟨⟨⟨V.lowl_pos _ (o_82 h3),?_⟩,h4⟩,by simp [h5]⟩
    rw [V.rens_back hρ _ (o_82 h3)];exact h1
   ·cases h
  ·cases h
def obsEnd (H:List (Option Ob)) (θ':List Nat) (k:Nat):List Nat→Option (List Ob)
 | []=>some []
 | n::θ=>match obsEnd H θ' k θ with
  | some l=>match H.getD n none with
   | some ob=>if inNames θ' (V.namess ob.c)=true then some (⟨ob.T,V.rens (posOf θ') ob.c⟩::l) else none
   | none=>if n<k then some (⟨0,[]⟩::l) else none
  | none=>none
theorem o_85 {H:List (Option Ob)} {θ':List Nat} {k:Nat} {ρ:Nat→Nat} (hρ:∀n∈θ',ρ (posOf θ' n)=n) (dead:List Nat):∀{θ:List Nat} {l:List Ob} (j:Nat),obsEnd H θ' k θ=some l→(∀i,i<θ.length→H.getD (θ.getD i 0) none=none→i+j∈dead)→obsIs H ρ dead j θ l∧l.length=θ.length∧∀ob∈l,V.lowl θ'.length ob.c=true
 | [],l,j,h,hd=>by cases h;exact ⟨trivial,rfl,by simp⟩
 | n::θ,l,j,h,hd=>by
  simp only [obsEnd] at h
  split at h
  ·rename_i l' h2
   obtain ⟨h4,h5,h6⟩:=o_85 hρ dead (j+1) h2 fun i hi hn=>by
    have:=hd (i+1) (by simp;omega) (by simpa using hn)
    rw [show i+(j+1)=i+1+j by omega];exact this
   split at h
   ·rename_i ob h1
    split at h
    ·rename_i h3
     cases h
     refine ⟨⟨.inr ?_,h4⟩,by simp [h5],fun o ho=>?_⟩
     ·show obIs H n _
      rw [V.rens_back hρ _ (o_82 h3)]
      exact ⟨ob,h1,rfl,Subs.refl _⟩
     ·rcases List.mem_cons.1 ho with rfl | ho
      ·exact V.lowl_pos _ (o_82 h3)
      ·exact h6 o ho
    ·cases h
   ·rename_i h1
    split at h
    ·cases h
     refine ⟨⟨.inl ?_,h4⟩,by simp [h5],fun o ho=>?_⟩
     ·have:=hd 0 (by simp) (by simpa using h1)
      simpa using this
     ·rcases List.mem_cons.1 ho with rfl | ho
      ·rfl
      ·exact h6 o ho
    ·cases h
  ·cases h

theorem o_86 {H:List (Option Ob)} {θ':List Nat} {k:Nat}:∀{θ:List Nat} {l:List Ob},obsEnd H θ' k θ=some l→∀i,i<θ.length→H.getD (θ.getD i 0) none=none→θ.getD i 0<k
 | [],l,h,i,hi,hn=>absurd hi (by simp)
 | n::θ,l,h,i,hi,hn=>by
  simp only [obsEnd] at h
  split at h
  ·rename_i l' h2
   cases i with
   | succ i=>simpa using o_86 h2 i (by simpa using hi) (by simpa using hn)
   | zero =>
    have hn:H.getD n none=none:=by simpa using hn
    rw [hn] at h
    simp only at h
    split at h
    ·rename_i h3;simpa using h3
    ·cases h
  ·cases h
theorem o_87 {θ:List Nat} (dead:List Nat) (h:θ.Nodup):apartB θ dead=true:=by
 refine List.all_eq_true.2 fun i hi=>List.all_eq_true.2 fun j hj=>?_
 have hi:=List.mem_range.1 hi
 have hj:=List.mem_range.1 hj
 by_cases e:i=j
 ·subst e;simp
 ·have:θ.getD i 0≠θ.getD j 0:=by
   rw [List.getD_eq_getElem?_getD,List.getD_eq_getElem?_getD,List.getElem?_eq_getElem hi,List.getElem?_eq_getElem hj]
   intro he
   exact e ((List.getElem_inj (h₀:=hi) (h₁:=hj) h).1 (by simpa using he))
  have h2:(θ.getD i 0 != θ.getD j 0)=true:=by simpa using this
  rw [h2];simp
def exitB:Exit→Bool
 | .normal | .ret=>true
 | _=>false
def beqNs:List Nat→List Nat→Bool
 | [],[]=>true
 | a::l,b::r=>Nat.beq a b&&beqNs l r
 | _,_=>false
theorem o_88:∀{a b:List Nat},beqNs a b=true→a=b
 | [],[],_=>rfl
 | a::l,b::r,h=>by
  simp only [beqNs,Bool.and_eq_true] at h
  rw [Nat.eq_of_beq_eq_true h.1,o_88 h.2]
def deadOf (H:List (Option Ob)) (k:Nat):List Nat:=(List.range k).filter fun i=>(H.getD i none).isNone
def outF (rs:List RV) (k:Nat) (o:Out):Option (V×List Ob×List Nat×List Nat):=match outV o.2.1 o.2.2 rs with
 | some x0 =>
  let x:=x0.norm
  let θ:=reachN o.2.2 100000 ((List.range k).flatMap (fun i=>match o.2.2.getD i none with | some ob=>V.namess ob.c | none=>[])++x.names) (List.range k)
  match obsEnd o.2.2 θ k θ with
  | some Hs'=>if exitB o.1&&beqNs (θ.take k) (List.range k)&&nodupB θ&&inNames θ x.names then some (x.ren (posOf θ),Hs',deadOf o.2.2 k,θ) else none
  | none=>none
 | none=>none
theorem o_89 {rs:List RV} {k:Nat} {o:Out} {X:V} {Hs':List Ob} {dead θ:List Nat} (h:outF rs k o=some (X,Hs',dead,θ)) :
  k≤Hs'.length∧(∀i∈dead,i<k)∧θ.take k=List.range k∧apartB θ dead=true∧X.low Hs'.length=true∧(∀ob∈Hs',V.lowl Hs'.length ob.c=true)∧retG rs θ X Hs' dead o.1 o.2.1 o.2.2:=by
 obtain ⟨e,T,H⟩:=o
 unfold outF at h
 simp only at h
 split at h
 ·rename_i x0 hx
  generalize hnx:x0.norm=x at h
  generalize hθ:reachN H 100000 ((List.range k).flatMap (fun i=>match H.getD i none with | some ob=>V.namess ob.c | none=>[])++x.names) (List.range k)=θ1 at h
  split at h
  ·rename_i Hs1 hob
   split at h
   ·rename_i hb
    simp only [Bool.and_eq_true] at hb
    obtain ⟨⟨⟨h1,h2⟩,h3⟩,h4⟩:=hb
    cases h
    have hnd:=o_83 h3
    have htk:=o_88 h2
    have hρ:∀n∈θ,(fun i=>θ.getD i 0) (posOf θ n)=n:=fun n hn=>(o_81 hn).2
    have hdead:∀i,i<θ.length→H.getD (θ.getD i 0) none=none→i+0∈deadOf H k:=by
     intro i hi hn
     have h5:=o_86 hob i hi hn
     have h6:θ.getD (θ.getD i 0) 0=θ.getD i 0:=by
      have h7:(θ.take k)[θ.getD i 0]?=(List.range k)[θ.getD i 0]?:=by rw [htk]
      rw [List.getElem?_take,if_pos h5,List.getElem?_range h5] at h7
      rw [List.getD_eq_getElem?_getD,h7];rfl
     have h8:θ.getD i 0<θ.length:=by
      have:=congrArg List.length htk
      simp at this
      omega
     have h9:θ.getD i 0=i:=by
      have a1:θ.getD (θ.getD i 0) 0=θ[θ.getD i 0]:=by rw [List.getD_eq_getElem?_getD,List.getElem?_eq_getElem h8];rfl
      have a2:θ.getD i 0=θ[i]:=by rw [List.getD_eq_getElem?_getD,List.getElem?_eq_getElem hi];rfl
      exact (List.getElem_inj (h₀:=h8) (h₁:=hi) hnd).1 (by rw [←a1,h6,a2])
     rw [h9] at hn h5
     exact List.mem_filter.2 ⟨List.mem_range.2 h5,by show (H.getD i none).isNone=true;rw [hn];rfl⟩
    obtain ⟨o1,o2,o3⟩:=o_85 (ρ:=fun i=>θ.getD i 0) hρ (deadOf H k) 0 hob hdead
    have hkl:k≤Hs'.length:=by
     rw [o2]
     have:=congrArg List.length htk
     simp at this
     omega
    refine ⟨hkl,fun i hi=>?_,htk,o_87 _ hnd,?_,?_,?_⟩
    ·exact List.mem_range.1 (List.mem_filter.1 hi).1
    ·rw [o2];exact V.low_pos x (o_82 h4)
    ·rw [o2];exact o3
    ·have:(∃y,outV T H rs=some y∧Sub1 y ((x.ren (posOf θ)).ren fun i=>θ.getD i 0))∧obsIs H (fun i=>θ.getD i 0) (deadOf H k) 0 θ Hs' :=
      ⟨⟨x0,hx,by rw [V.ren_back hρ x (o_82 h4),←hnx];exact V.norm_sub x0⟩,o1⟩
     cases e<;>first | exact this | cases h1
   ·cases h
  ·cases h
 ·cases h
def sameR (r s:V×List Ob×List Nat×List Nat):Bool:=V.beq r.1 s.1&&obsB r.2.1 s.2.1&&beqNs r.2.2.1 s.2.2.1&&beqNs r.2.2.2 s.2.2.2
theorem o_8a {r s:V×List Ob×List Nat×List Nat} (h:sameR r s=true):r=s:=by
 simp only [sameR,Bool.and_eq_true] at h
 obtain ⟨⟨⟨h1,h2⟩,h3⟩,h4⟩:=h
 obtain ⟨a,b,c,d⟩:=r
 obtain ⟨a',b',c',d'⟩:=s
 rw [show a=a' from V.beq_ok _ _ h1,show b=b' from o_7v h2,show c=c' from o_88 h3,show d=d' from o_88 h4]
def evF (tbl:FuncId→Option (C×List RV×Nat)) (fz:FuncId→Bool) (cl:FuncId→List V→List (Option Ob)→Option R4) (mt:TypeId→String→Option FuncId) (n:Nat) (f:FuncId) (args:List V) (Hs:List Ob):Option (V×List Ob×List Nat) :=
 match tbl f with
 | some (c,rs,nt)=>match evC cl mt (if fz f then some (Hs.length,rs.filterMap fun | .cell n _ _=>some n | _=>none) else none) n c (args++List.replicate (nt-args.length) .junk) (Hs.map some) with
  | some outs=>match bindL outs fun o=>(outF rs Hs.length o).map fun r=>[r] with
   | some (r::l)=>if l.all (sameR r) then some (r.1,r.2.1,r.2.2.1) else none
   | _=>none
  | none=>none
 | none=>none
theorem o_8b {P:Program} {tbl:FuncId→Option (C×List RV×Nat)} {fz:FuncId→Bool} {cl:FuncId→List V→List (Option Ob)→Option R4} {mt:TypeId→String→Option FuncId} {n:Nat} {f:FuncId} {args:List V} {Hs:List Ob} {X:V} {Hs':List Ob} {dead:List Nat}
  (hmix:P.follows .mixedOrders=true) (htbl:∀f c rs nt,tbl f=some (c,rs,nt)→fnOf P f=some (c,rs,nt,false)) (hcl:∀f args H r,cl f args H=some r→∀K,R4.then r K→CallS P f args H K) (hmt:∀t name g,mt t name=some g→MethOK P t name g)
  (h:evF tbl fz cl mt n f args Hs=some (X,Hs',dead)):EqnD P f args Hs X Hs' dead:=by
 unfold evF at h
 split at h
 ·rename_i c rs nt hf
  split at h
  ·rename_i outs hc
   split at h
   ·rename_i r l hb
    split at h
    ·rename_i hall
     obtain ⟨X1,Hs1,dead1,θ⟩:=r
     injection h with h
     injection h with h1 h2
     injection h2 with h2 h3
     simp only at h1 h2 h3
     subst h1;subst h2;subst h3
     have each:∀o∈outs,outF rs Hs.length o=some (X1,Hs1,dead1,θ):=fun o ho=>by
      obtain ⟨x,hx,hsub⟩:=o_7u hb o ho
      rw [Option.map_eq_some_iff] at hx
      obtain ⟨r,hr,rfl⟩:=hx
      rw [hr]
      rcases List.mem_cons.1 (hsub r (List.mem_singleton.2 rfl)) with h | h
      ·rw [h]
      ·rw [←o_8a (List.all_eq_true.1 hall r h)]
     cases outs with
     | nil=>cases hb
     | cons o0 outs =>
      obtain ⟨a1,a2,a3,a4,a5,a6,_⟩:=o_89 (each o0 (List.mem_cons_self ..))
      exact Eqn.gen θ (htbl _ _ _ _ hf) a1 a2 a3 a4 a5 a6 (o_80 hmix hcl hmt hc fun o ho=>(o_89 (each o ho)).2.2.2.2.2.2)
    ·cases h
   ·cases h
  ·cases h
 ·cases h
def evCl (tbl:FuncId→Option (C×List RV×Nat)) (fz:FuncId→Bool) (orc:FuncId→List V→List (Option Ob)→Option R4) (mt:TypeId→String→Option FuncId) (fuel:Nat):Nat→FuncId→List V→List (Option Ob)→Option R4
 | 0,_,_,_=>none
 | n+1,f,args,H=>match orc f args H with
  | some r=>some r
  | none =>
   let θ:=reachN H 100000 (V.namess args) []
   if inNames θ (V.namess args)&&nodupB θ then
    match obsOf H θ θ with
    | some Hs=>match evF tbl fz (evCl tbl fz orc mt fuel n) mt fuel f (V.rens (posOf θ) args) Hs with
     | some (X,Hs',dead)=>some (X.ren (nameOf θ H.length),killAll (putAll H θ (Hs'.map fun ob=>⟨ob.T,V.rens (nameOf θ H.length) ob.c⟩)) θ dead,[],θ++(List.range (Hs'.length-Hs.length)).map (H.length + ·))
     | none=>none
    | none=>none
   else none
theorem o_8c {θ:List Nat} {L:Nat}:∀n∈θ,nameOf θ L (posOf θ n)=n:=fun n hn=>by
 unfold nameOf
 rw [if_pos (o_81 hn).1];exact (o_81 hn).2
theorem o_8d {P:Program} {tbl:FuncId→Option (C×List RV×Nat)} {fz:FuncId→Bool} {orc:FuncId→List V→List (Option Ob)→Option R4} {mt:TypeId→String→Option FuncId} {fuel:Nat}
  (hmix:P.follows .mixedOrders=true) (htbl:∀f c rs nt,tbl f=some (c,rs,nt)→fnOf P f=some (c,rs,nt,false)) (horc:∀f args H r,orc f args H=some r→∀K,R4.then r K→CallS P f args H K) (hmt:∀t name g,mt t name=some g→MethOK P t name g) :
  ∀n f args H r,evCl tbl fz orc mt fuel n f args H=some r→∀K,R4.then r K→CallS P f args H K
 | 0,_,_,_,_,h=>by cases h
 | n+1,f,args,H,r,h=>fun K hK=>by
  unfold evCl at h
  split at h
  ·rename_i r' hr;cases h;exact horc _ _ _ _ hr K hK
  ·simp only at h
   generalize hθ:reachN H 100000 (V.namess args) []=θ at h
   split at h
   ·rename_i hb
    simp only [Bool.and_eq_true] at hb
    split at h
    ·rename_i Hs hHs
     split at h
     ·rename_i X Hs' dead hF
      cases h
      have E:=o_8b hmix htbl (o_8d hmix htbl horc hmt n) hmt hF
      obtain ⟨a1,a2⟩:=o_84 (ρ:=nameOf θ H.length) o_8c hHs
      refine CallS.gen θ E (o_83 hb.2) ?_ ?_ ?_ hK
      ·rw [a2];exact a1
      ·rw [a2];exact V.lowl_pos args (o_82 hb.1)
      ·rw [V.rens_back o_8c args (o_82 hb.1)];exact Subs.refl _
     ·cases h
    ·cases h
   ·cases h

def orcB (fa fs fc:FuncId) (f:FuncId) (args:List V) (H:List (Option Ob)):Option R4:=match args with
 | [.d .sl0]=>if Nat.beq f fc=true then some (.d (.sl 0 []),H,[],[]) else none
 | [.d (.sl 0 [])]=>if Nat.beq f fc=true then some (.d (.sl 0 []),H,[],[]) else none
 | [.d (.int .u64 x),.d (.int .u64 y),.d (.int .u64 c)] =>
  if 0≤x∧x<18446744073709551616∧0≤y∧y<18446744073709551616∧0≤c∧c≤1 then
   (if Nat.beq f fa=true then some (.tup [.d (.int .u64 ((x+y+c)%18446744073709551616)),.d (.int .u64 ((x+y+c)/18446744073709551616))],H,[],[])
   else if Nat.beq f fs=true then some (.tup [.d (.int .u64 ((x-y-c)%18446744073709551616)),.d (.int .u64 (if x<y+c then 1 else 0))],H,[],[])
   else none)
  else none
 | _=>none
def tblP (P:Program) (f:FuncId):Option (C×List RV×Nat):=match fnOf P f with
 | some (c,rs,nt,false)=>some (c,rs,nt)
 | _=>none
theorem o_8e {P:Program}:∀f c rs nt,tblP P f=some (c,rs,nt)→fnOf P f=some (c,rs,nt,false):=fun f c rs nt h=>by
 unfold tblP at h
 split at h
 ·rename_i c' rs' nt' h1;cases h;exact h1
 ·cases h
def mtL:List (TypeId×String×FuncId)→TypeId→String→Option FuncId
 | [],_,_=>none
 | (t,n,g)::l,t2,n2=>if t=t2 then (if n=n2 then some g else mtL l t2 n2) else mtL l t2 n2
theorem o_8f {P:Program}:∀{l:List (TypeId×String×FuncId)},(∀e∈l,MethOK P e.1 e.2.1 e.2.2)→∀t n g,mtL l t n=some g→MethOK P t n g
 | [],_,t,n,g,h=>by cases h
 | (t1,n1,g1)::l,hl,t,n,g,h=>by
  simp only [mtL] at h
  split at h
  ·split at h
   ·rename_i h1 h2;cases h;subst h1;subst h2;exact hl _ (List.mem_cons_self ..)
   ·exact o_8f (fun e he=>hl e (List.mem_cons_of_mem _ he)) t n g h
  ·exact o_8f (fun e he=>hl e (List.mem_cons_of_mem _ he)) t n g h
theorem Eqn.ev {P:Program} {fz:FuncId→Bool} {ml:List (TypeId×String×FuncId)} {orc:FuncId→List V→List (Option Ob)→Option R4} {fuel n d:Nat} {f:FuncId} {args:List V} {Hs:List Ob} {X:V} {Hs':List Ob} {dead:List Nat}
  (hmix:P.follows .mixedOrders=true) (horc:∀f args H r,orc f args H=some r→∀K,R4.then r K→CallS P f args H K) (hml:∀e∈ml,MethOK P e.1 e.2.1 e.2.2)
  (h:evF (tblP P) fz (evCl (tblP P) fz orc (mtL ml) fuel d) (mtL ml) n f args Hs=some (X,Hs',dead)):EqnD P f args Hs X Hs' dead :=
 o_8b hmix o_8e (o_8d hmix o_8e horc (o_8f hml) d) (o_8f hml) h
end
section
open Go.RowKit
theorem o_8g:∀f args H r,orcB o_7b o_7d o_78 f args H=some r→∀K,R4.then r K→CallS Tryz.prog f args H K:=by
 intro f args H r h K hK
 unfold orcB at h
 have hcl:∀x:V,Sub1 x (.d (.sl 0 []))→f=o_78→K (.d (.sl 0 [])) H [] []→CallS Tryz.prog f [x] H K:=fun x hx hf hK=>by
  subst hf
  exact CallS.pure (o_7l 0 [] rfl (by omega)) (o_5d _) rfl (fun _=>rfl) (fun m vs h=>by obtain ⟨v,r,e,h1,h2⟩:=V.reps_cons'.1 h;exact e▸V.reps_cons.2 ⟨hx m v h1,h2⟩) hK
 split at h
 ·split at h
  ·rename_i hf;cases h;exact hcl _ Sub1.sl0 (Nat.eq_of_beq_eq_true hf) hK
  ·cases h
 ·split at h
  ·rename_i hf;cases h;exact hcl _ (fun _ _ h=>h) (Nat.eq_of_beq_eq_true hf) hK
  ·cases h
 rotate_left
 ·cases h
 rename_i x y c
 split at h
 rotate_left
 ·cases h
 rename_i hb
 obtain ⟨x0,x1,y0,y1,c0,c1⟩:=hb
 obtain ⟨a,rfl⟩:=Int.eq_ofNat_of_zero_le x0
 obtain ⟨b,rfl⟩:=Int.eq_ofNat_of_zero_le y0
 obtain ⟨d,rfl⟩:=Int.eq_ofNat_of_zero_le c0
 split at h
 ·rename_i hf
  have hf:=Nat.eq_of_beq_eq_true hf
  subst hf
  cases h
  refine CallS.pure (o_7m a b d ((a+b+d)%18446744073709551616) ((a+b+d)/18446744073709551616) (by omega) (by omega) (by omega) (by omega) (by omega)) (o_7q _ _) rfl (fun _=>rfl) (Subs.refl _) ?_
  have e1:(((a+b+d)%18446744073709551616:Nat):Int)=((a:Int)+b+d)%18446744073709551616:=by omega
  have e2:(((a+b+d)/18446744073709551616:Nat):Int)=((a:Int)+b+d)/18446744073709551616:=by omega
  rw [e1,e2];exact hK
 split at h
 ·rename_i hf
  have hf:=Nat.eq_of_beq_eq_true hf
  subst hf
  cases h
  refine CallS.pure (o_7n a b d ((a+18446744073709551616*(if a<b+d then 1 else 0))-(b+d)) (if a<b+d then 1 else 0) (by omega) (by omega) (by omega) (by split<;>omega) (by split<;>omega)) (o_7q _ _) rfl (fun _=>rfl) (Subs.refl _) ?_
  have e1:(((a+18446744073709551616*(if a<b+d then 1 else 0))-(b+d):Nat):Int)=((a:Int)-b-d)%18446744073709551616:=by split<;>omega
  have e2:(((if a<b+d then 1 else 0:Nat)):Int)=if (a:Int)<b+d then 1 else 0:=by split<;>split<;>omega
  rw [e1,e2];exact hK
 ·cases h
end
section
def exitQ {β:Type} (id N:Nat) (T1:β→List V) (H1:β→List (Option Ob)) (R2:β→Prop) (Q:Exit→List V→List (Option Ob)→Prop):Exit→List V→List (Option Ob)→Prop
 | .exit j,T,H=>if j=id then ∃b,R2 b∧wk N T (T1 b)∧wkH N H (H1 b) else Q (.exit j) T H
 | .normal,_,_=>False
 | e,T,H=>Q e T H
attribute [simp] exitQ
end
section
open Go.RowKit
theorem AW.meet {P:Program} {L:Nat} {Q Q2:Exit→List V→List (Option Ob)→Prop} {T:List V} {H:List (Option Ob)} {x y:C} (T1:List V) (H1:List (Option Ob)) (hL:L≤H1.length)
  (h1:AW P L x (thenQ (fun T' H'=>wk H1.length T' T1∧wkH H1.length H' H1) Q) T H) (h2:AW P L y Q2 T1 H1):AW P L x (thenQ (AW P L y Q2) Q) T H:=by
 intro code hc m0 m a sat hle htop hL'
 refine wp_mono (h1 code hc m0 m a sat hle htop hL') ?_
 rintro e a' w' ⟨T',H',m',rfl,hq,rest⟩
 refine ⟨T',H',m',rfl,?_,rest⟩
 cases e with
 | normal =>
  obtain ⟨w1,w2⟩:=hq
  exact AW.weak (Weak.of w1 w2) hL h2
 | _=>exact hq
end
section
open Go.RowKit
theorem AW.loopE {P:Program} {L:Nat} {Q:Exit→List V→List (Option Ob)→Prop} {T:List V} {H:List (Option Ob)} {x:C} {α:Type} (T1:α→List V) (H1:α→List (Option Ob)) (R:α→Prop) (μ:α→Nat) (a0:α) (hL:∀a,R a→L≤(H1 a).length) (hR:R a0)
  (h0:wk (H1 a0).length T (T1 a0)) (h0':wkH (H1 a0).length H (H1 a0))
  (h:∀a,R a→AW P L x (thenQ (fun T' H'=>∃a',R a'∧μ a'<μ a∧wk (H1 a').length T' (T1 a')∧wkH (H1 a').length H' (H1 a')) Q) (T1 a) (H1 a)):AW P L (.loop x) Q T H:=by
 refine AW.weak (T1:=T1 a0) (H1:=H1 a0) (Weak.of h0 h0') (hL _ hR) ?_
 intro code hc m0 m a sat hle htop hL'
 cases code<;>simp [resolveC] at hc
 rename_i cx
 refine o_58 (fun k a w=>∃z:α,∃m,m.w=w∧k=μ z∧R z∧Sat m a (T1 z) (H1 z)∧m0.le m (· < L)∧L≤(H1 z).length) ?_ (μ a0) a m.w ⟨a0,m,rfl,rfl,hR,sat,hle,hL'⟩
 rintro k a w ⟨z,m,rfl,rfl,hz,sat,hle,hL1⟩
 refine wp_mono (h z hz cx hc m0 m a sat hle htop hL1) ?_
 rintro e a' w' ⟨T',H',m',rfl,hq,sat',hle',hL'⟩
 cases e with
 | normal =>
  obtain ⟨z',hz',hμ,hw1,hw2⟩:=hq
  obtain ⟨m2,hm2,s2,l2,n2⟩:=Sat.weaken (Weak.of hw1 hw2) sat' hle' htop (hL _ hz')
  exact ⟨μ z',hμ,z',m2,hm2,rfl,hz',s2,l2,n2⟩
 | _=>exact ⟨T',H',m',rfl,hq,sat',hle',hL'⟩

def rowsF (f:Nat→List V):Nat→Nat→List V
 | _,0=>[]
 | k,n+1=>f k++rowsF f (k+1) n
theorem o_8h {f:Nat→List V} {s:Nat} (hf:∀i,(f i).length=s):∀n k,(rowsF f k n).length=n*s
 | 0,_=>by simp [rowsF]
 | n+1,k=>by rw [rowsF,List.length_append,hf,o_8h hf n,Nat.add_mul,Nat.one_mul,Nat.add_comm]
theorem o_8i {f:Nat→List V} {s:Nat} (hf:∀i,(f i).length=s):∀n k i,i<n→(rowsF f k n).drop (i*s)=f (k+i)++rowsF f (k+i+1) (n-i-1)
 | n+1,k,0,_=>by rw [rowsF];simp
 | n+1,k,i+1,h=>by
  rw [rowsF,Nat.add_mul,Nat.one_mul,Nat.add_comm (i*s) s,←List.drop_drop,List.drop_left' (hf k),o_8i hf n (k+1) i (by omega)]
  rw [show k+1+i=k+(i+1) by omega,show n+1-(i+1)-1=n-i-1 by omega]
theorem o_8j {f:Nat→List V} {s:Nat} (hf:∀i,(f i).length=s):∀n k i,i≤n→(rowsF f k n).take (i*s)=rowsF f k i
 | n,k,0,_=>by simp [rowsF]
 | n+1,k,i+1,h=>by
  rw [rowsF,rowsF,Nat.add_mul,Nat.one_mul,Nat.add_comm (i*s) s,List.take_append,hf,Nat.add_sub_cancel_left,o_8j hf n (k+1) i (by omega),List.take_of_length_le (by rw [hf];omega)]
theorem o_8k {f g:Nat→List V}:∀n k,(∀i,k≤i→i<k+n→f i=g i)→rowsF f k n=rowsF g k n
 | 0,_,_=>rfl
 | n+1,k,h=>by rw [rowsF,rowsF,h k (Nat.le_refl _) (by omega),o_8k n (k+1) fun i h1 h2=>h i (by omega) (by omega)]
theorem o_8l {f:Nat→List V}:∀n k m,rowsF f k (n+m)=rowsF f k n++rowsF f (k+n) m
 | 0,k,m=>by simp [rowsF]
 | n+1,k,m=>by rw [show n+1+m=(n+m)+1 by omega,rowsF,rowsF,o_8l n (k+1) m,List.append_assoc,show k+1+n=k+(n+1) by omega]
theorem o_8m {f g:Nat→List V} {s:Nat} (hf:∀i,(f i).length=s) {n i:Nat} (hi:i<n) (hg:(g i).length=s) (hfg:∀j,j≠i→g j=f j):setMany (rowsF f 0 n) (i*s) (g i)=rowsF g 0 n:=by
 have h1:i*s+s≤n*s:=by rw [←Nat.succ_mul];exact Nat.mul_le_mul_right s hi
 rw [o_l _ _ _ (by rw [hg,o_8h hf];exact h1),o_8j hf n 0 i (by omega),hg,←List.drop_drop,o_8i hf n 0 i hi,List.drop_left' (hf _)]
 have h2:n=i+(1+(n-i-1)):=by omega
 conv=>rhs;rw [h2,o_8l,o_8l]
 rw [o_8k (f:=g) (g:=f) i 0 fun j h3 h4=>hfg j (by omega),o_8k (f:=g) (g:=f) (n-i-1) (0+i+1) fun j h3 h4=>hfg j (by omega)]
 simp [rowsF]
theorem o_8n {f:Nat→List V} {s:Nat} (hf:∀i,(f i).length=s) {n i j:Nat} (hi:i<n) (hj:j<s):(rowsF f 0 n)[i*s+j]?=(f i)[j]?:=by
 rw [←List.getElem?_drop,o_8i hf n 0 i hi,List.getElem?_append_left (by rw [hf];exact hj),Nat.zero_add]
theorem o_8o {f:Nat→List V} {s:Nat} (hf:∀i,(f i).length=s) {n i j q:Nat} (hi:i<n) (hj:j+q≤s):((rowsF f 0 n).drop (i*s+j)).take q=((f i).drop j).take q:=by
 rw [←List.drop_drop,o_8i hf n 0 i hi,List.drop_append_of_le_length (by rw [hf];omega),List.take_append_of_le_length (by rw [List.length_drop,hf];omega),Nat.zero_add]

def itemL (b:Bool):List D:=if b then [.int .i64 1,.int .i64 2,.int .i64 8,.int .i64 10,.int .i64 0,.int .i64 0,.bool false,.nilp,.nilp,.nilp,.nilp] else [.int .i64 0,.int .i64 0,.int .i64 0,.int .i64 0,.int .i64 0,.int .i64 0,.bool false,.nilp,.nilp,.nilp,.nilp]
def itemV (b:Bool):List V:=(itemL b).map .d
theorem o_8p (b:Bool):(itemV b).length=11:=by cases b<;>rfl
def updB (hv:Nat→Bool) (h:Nat) (b:Bool):Nat→Bool:=fun j=>if j=h then b else hv j
def slV (hv:Nat→Bool):List V:=rowsF (fun i=>itemV (hv i)) 0 17
def mcs (hv:Nat→Bool):List V:=.p 1 0::slV hv
abbrev machO (hv:Nat→Bool):Ob:=⟨133,mcs hv⟩
abbrev tapeE:Ob:=⟨111,[.d (.int .i64 0),.d (.bool false),.d .nilsl]⟩
theorem o_8q (hv:Nat→Bool):(slV hv).length=187:=o_8h (fun i=>o_8p _) 17 0
theorem o_8r (hv:Nat→Bool):(mcs hv).length=188:=by unfold mcs;rw [List.length_cons,o_8q]
theorem o_8s (hv:Nat→Bool):(mcs hv)[0]?=some (.p 1 0):=rfl
theorem o_8t (hv:Nat→Bool) {h j:Nat} (hh:h<17) (hj:j<11):(mcs hv)[1+h*11+j]?=(itemV (hv h))[j]?:=by
 unfold mcs slV
 rw [show 1+h*11+j=(h*11+j)+1 by omega,List.getElem?_cons_succ,o_8n (fun i=>o_8p _) hh hj]
theorem o_8u (hv:Nat→Bool) {h:Nat} (hh:h<17):(mcs hv)[1+h*11]?=some (.d (.int .i64 (if hv h then 1 else 0))):=by
 have:=o_8t hv (j:=0) hh (by omega)
 rw [Nat.add_zero] at this
 rw [this];cases hv h<;>rfl
theorem o_8v (hv:Nat→Bool) {h j q:Nat} (hh:h<17) (hj:j+q≤11):((mcs hv).drop (1+h*11+j)).take q=((itemV (hv h)).drop j).take q:=by
 unfold mcs slV
 rw [show 1+h*11+j=(h*11+j)+1 by omega,List.drop_succ_cons,o_8o (fun i=>o_8p _) hh hj]
theorem o_8w (hv:Nat→Bool) {h:Nat} (hh:h<17):((mcs hv).drop (1+h*11)).take 11=itemV (hv h):=by
 have:=o_8v hv (j:=0) (q:=11) hh (by omega)
 rw [Nat.add_zero] at this
 rw [this];cases hv h<;>rfl
theorem o_8x (x:V):∀(c l:List V) (k:Nat),setMany (x::l) (k+1) c=x::setMany l k c
 | [],l,k=>rfl
 | y::c,l,k=>by rw [setMany,setMany,List.set_cons_succ,o_8x x c]
theorem o_8y (hv:Nat→Bool) {h:Nat} (b:Bool) (hh:h<17):setMany (mcs hv) (1+h*11) (itemV b)=mcs (updB hv h b):=by
 unfold mcs slV
 rw [Nat.add_comm 1,o_8x]
 have:=o_8m (f:=fun i=>itemV (hv i)) (g:=fun i=>itemV (updB hv h b i)) (s:=11) (fun i=>o_8p _) hh (o_8p _) (fun j hj=>by simp [updB,hj])
 rw [show updB hv h b h=b by simp [updB]] at this
 rw [this]
theorem o_8z:∀(n:Nat) (l:List D),V.lowl n (l.map .d)=true
 | _,[]=>rfl
 | n,x::l=>by rw [List.map_cons,V.lowl,o_8z n l];rfl
theorem o_90:∀(n:Nat) (l r:List V),V.lowl n l=true→V.lowl n r=true→V.lowl n (l++r)=true
 | _,[],r,_,h=>h
 | n,x::l,r,h1,h2=>by
  simp only [V.lowl,Bool.and_eq_true] at h1
  rw [List.cons_append,V.lowl,h1.1,o_90 n l r h1.2 h2];rfl
theorem o_91 (hv:Nat→Bool) (m:Nat):∀n k,V.lowl m (rowsF (fun i=>itemV (hv i)) k n)=true
 | 0,_=>rfl
 | n+1,k=>o_90 _ _ _ (o_8z _ _) (o_91 hv m n (k+1))
theorem o_92 (hv:Nat→Bool) {m:Nat} (hm:1<m):V.lowl m (mcs hv)=true:=by
 unfold mcs slV
 rw [V.lowl,o_91]
 simp [V.low,hm]
theorem o_93 (ρ:Nat→Nat):∀(l r:List V),V.rens ρ (l++r)=V.rens ρ l++V.rens ρ r
 | [],r=>rfl
 | x::l,r=>by rw [List.cons_append,V.rens,V.rens,o_93 ρ l r,List.cons_append]
theorem o_94 (ρ:Nat→Nat):∀(l:List D),V.rens ρ (l.map .d)=l.map .d
 | []=>rfl
 | x::l=>by rw [List.map_cons,V.rens,o_94 ρ l];rfl
theorem o_95 (ρ:Nat→Nat) (hv:Nat→Bool):∀n k,V.rens ρ (rowsF (fun i=>itemV (hv i)) k n)=rowsF (fun i=>itemV (hv i)) k n
 | 0,_=>rfl
 | n+1,k=>by rw [rowsF,o_93,o_95 ρ hv n (k+1)];unfold itemV;rw [o_94]
theorem o_96 {ρ:Nat→Nat} (hv:Nat→Bool) (h:ρ 1=1):V.rens ρ (mcs hv)=mcs hv:=by
 unfold mcs slV
 rw [V.rens,o_95]
 simp [V.ren,h]
@[simp] theorem o_97 (hv:Nat→Bool):V.lowl 2 (mcs hv)=true:=o_92 hv (by omega)
@[simp] theorem o_98 (hv:Nat→Bool) (L:Nat):V.rens (nameOf [0,1] L) (mcs hv)=mcs hv:=o_96 hv (by simp [nameOf])
@[simp] theorem o_99 (hv:Nat→Bool):V.rens (fun i=>[0,1][i]?.getD 0) (mcs hv)=mcs hv:=o_96 hv rfl
attribute [simp] o_8r
end
section
open Go.RowKit
def hasB (hv:Nat→Bool) (a:Int):Bool:=decide (1≤a)&&decide (a≤16)&&hv a.toNat
theorem o_9a (hv:Nat→Bool) (a:Int):Eqn Tryz.prog o_6r [.p 0 0,.d (.int .i64 a)] [machO hv,tapeE] (.d (.bool (hasB hv a))) [machO hv,tapeE]:=by
 refine Eqn.gen [0,1] o_6t (by simp) (by simp) (by rfl) (by decide) (by simp [V.low]) (by simp [o_92,V.lowl,V.low]) ?_
 simp only [o_6s,machO,tapeE]
 unfold hasB
 have hl:=o_8r hv
 by_cases h1:1≤a
 ·by_cases h2:a<17
  ·obtain ⟨h,rfl⟩:=Int.eq_ofNat_of_zero_le (show 0≤a by omega)
   have hk:(mcs hv)[1+h*11]?=some (.d (.int .i64 (if hv h then 1 else 0))):=o_8u hv (show h<17 by omega)
   have h3:(h:Int)≤16:=by omega
   have h4:h<17:=by omega
   have h5:1≤h:=by omega
   cases hb:hv h
   ·simp only [hb,Bool.false_eq_true,if_false] at hk
    refine A10 (fs h1 (fs h2 (fs h3 (fs h4 (fs h5 (fs hl (fs hk hb))))))) ?_;try with_reducible exact tt
   ·simp only [hb,if_true] at hk
    refine A10 (fs h1 (fs h2 (fs h3 (fs h4 (fs h5 (fs hl (fs hk hb))))))) ?_;try with_reducible exact tt
  ·have h3:¬a≤16:=by omega
   refine A10 (fs h1 (fs h2 (fs h3 hl))) ?_;try with_reducible exact tt
 ·refine A10 (fs h1 hl) ?_;try with_reducible exact tt
theorem o_9b (hv:Nat→Bool) (l:Nat) (h1:1≤l) (h17:l≤17) (hf:∀i,1≤i→i<l→hv i=true) (hl:l<17→hv l=false):Eqn Tryz.prog o_72 [.p 0 0] [machO hv,tapeE] (.tup [.d (.int .i64 (if l=17 then 0 else l)),.d (.int .i64 (if l=17 then 11 else 0))]) [machO hv,tapeE]:=by
 refine Eqn.gen [0,1] o_74 (by simp) (by simp) (by rfl) (by decide) (by simp [V.low]) (by simp [o_92,V.lowl,V.low]) ?_
 have hh:=o_9a hv
 simp only [o_73,machO,tapeE] at hh ⊢
 refine A00 ?_;try with_reducible exact tt
 refine AW.loopT (α:=Nat) 2 (fun i=>[(4,.d (.int .i64 (i:Nat)))]) (fun _=>[]) (fun i=>1≤i∧i≤l) (fun i=>18-i) 1 ?_ ?_ ?_ ?_ ?_ ?_
 ·simp
 ·simp
 ·exact ⟨by omega,h1⟩
 ·simp
 ·simp
 rintro i ⟨i1,il⟩
 by_cases hi:i<17
 ·have hi':(i:Int)<17:=by omega
  by_cases hil:i=l
  ·subst hil
   have hb:hasB hv (i:Int)=false:=by unfold hasB;simp [hl hi]
   have hn:¬i=17:=by omega
   have hc:=hh (i:Int)
   rw [hb] at hc
   refine A10 hi' ?_;try with_reducible exact tt
   refine CallS.g [0,1] (hc) (R0 ?_);try with_reducible exact tt
   refine A10 hn ?_;try with_reducible exact tt
  ·have hb:hasB hv (i:Int)=true:=by unfold hasB;simp [hf i i1 (by omega)];omega
   have hc:=hh (i:Int)
   rw [hb] at hc
   have hw:IntKind.i64.wrap ((i:Int)+1)=((i+1:Nat):Int):=by rw [w64 (by omega) (by omega)];omega
   refine A10 hi' ?_;try with_reducible exact tt
   refine CallS.g [0,1] (hc) (R0 ?_);try with_reducible exact tt
   refine A10 hw ?_;try with_reducible exact tt
   exact ⟨i+1,⟨by omega,by omega⟩,by omega,by simp⟩
 ·have hi':¬(i:Int)<17:=by omega
  have hl17:l=17:=by omega
  subst hl17
  refine A10 hi' ?_;try with_reducible exact tt
end
section
open Go.RowKit
def mlF : List (TypeId × String × FuncId) := [(377, "tallymark/chain.good", o_7h), (377, "tallymark/chain.step", o_7j), (377, "tallymark/chain.reply", o_7i), (377, "tallymark/chain.value", o_7k), (377, "tallymark/chain.chance", o_7g), (377, "tallymark/chain.again", o_7f)]
theorem o_9c:∀e∈mlF,MethOK Tryz.prog e.1 e.2.1 e.2.2:=by
 unfold mlF
 simp only [List.forall_mem_cons]
 exact ⟨fun v w=>by kernel_rfl,fun v w=>by kernel_rfl,fun v w=>by kernel_rfl,fun v w=>by kernel_rfl,fun v w=>by kernel_rfl,fun v w=>by kernel_rfl,by simp⟩
theorem o_9d {f:FuncId} {args:List V} {Hs:List Ob} {X:V} {Hs':List Ob} {dead:List Nat} (h:evF (tblP Tryz.prog) (fun _=>false) (evCl (tblP Tryz.prog) (fun _=>false) (orcB o_7b o_7d o_78) (mtL mlF) 3000 60) (mtL mlF) 3000 f args Hs=some (X,Hs',dead)):EqnD Tryz.prog f args Hs X Hs' dead :=
 Eqn.ev mix o_8g o_9c h
theorem o_9e:Eqn Tryz.prog o_6g [] [] (.d (.bool true)) []:=o_9d (by kernel_rfl)
theorem o_9f:Eqn Tryz.prog o_6h [.d .nilsl] [] (.p 0 0) [machO (fun _=>false),tapeE]:=o_9d (by kernel_rfl)
theorem o_9g:Eqn Tryz.prog o_71 [.d (.sl 4 [.int .i64 1,.int .i64 2,.int .i64 8,.int .i64 10])] [] (.tup [.d (.agg (itemL true)),.d (.int .i64 0)]) []:=o_9d (by kernel_rfl)
theorem o_9h:Eqn Tryz.prog o_70 [.d (.agg (itemL true))] [] (.d (.agg (itemL true))) []:=o_9d (by kernel_rfl)
theorem o_9i:Eqn Tryz.prog o_6f [.d (.agg [.int .i64 2,.int .i64 8,.int .i64 10]),.p 0 0,.d (.agg [.int .i64 0,.int .i64 0,.bool false]),.d (.agg [.int .i64 0,.int .i64 0,.bool false])] [tapeE] (.tup [.d (.agg [.int .i64 0,.int .i64 0,.bool false]),.d (.int .i64 0)]) [tapeE]:=o_9d (by kernel_rfl)
end
section
open Go.RowKit
def repL (e h:Int):List D:=[.int .i64 e,.int .i64 h,.bool false,.nilsl,.bool false,.nilsl,.nilsl,.bool false,.nilsl,.nilsl,.bool false,.nilsl,.nilsl,.bool false,.nilsl,.nilsl]
theorem o_9j (e:Int):Eqn Tryz.prog o_6u [.d (.int .i64 e)] [] (.d (.agg (repL e 0))) []:=by
 refine Eqn.pure o_6w (o_5d _) ?_
 simp only [o_6v,repL]
 refine A00 ?_;try with_reducible exact tt
theorem o_9k (hv:Nat→Bool) (l:Nat) (h1:1≤l) (h17:l≤17) (hf:∀i,1≤i→i<l→hv i=true) (hl:l<17→hv l=false) :
  Eqn Tryz.prog o_6o [.p 0 0,.d (.agg [.int .i64 1,.int .i64 0,.int .i64 0,.int .i64 0,.int .i64 0,.int .u64 0,.sl 4 [.int .i64 1,.int .i64 2,.int .i64 8,.int .i64 10],.nilsl])] [machO hv,tapeE]
   (.d (.agg (if l=17 then repL 11 0 else repL 0 l))) [machO (if l=17 then hv else updB hv l true),tapeE]:=by
 have hfree:=o_9b hv l h1 h17 hf hl
 have hmade:=o_9g
 have hfl:=o_9j 11
 by_cases h:l=17
 ·rw [if_pos h,if_pos h]
  rw [if_pos h,if_pos h] at hfree
  refine Eqn.gen [0,1] o_6q (by simp) (by simp) (by rfl) (by decide) (by simp [V.low]) (by simp [V.lowl,V.low]) ?_
  simp only [o_6p,machO,tapeE,repL,itemL,if_true] at hfree hmade hfl ⊢
  refine A01 hmade ?_;try with_reducible exact tt
  refine CallS.g [0,1] (hfree) (R0 ?_);try with_reducible exact tt
  refine A01 hfl ?_;try with_reducible exact tt
 ·rw [if_neg h,if_neg h]
  rw [if_neg h,if_neg h] at hfree
  have hs:=o_8y hv true (show l<17 by omega)
  refine Eqn.gen [0,1] o_6q (by simp) (by simp) (by rfl) (by decide) (by simp [V.low]) (by simp [V.lowl,V.low]) ?_
  simp only [o_6p,machO,tapeE,repL,itemL,itemV,if_true,List.map_cons,List.map_nil] at hfree hmade hs ⊢
  have hl2:(l:Int)<17:=by omega
  refine A01 hmade ?_;try with_reducible exact tt
  refine CallS.g [0,1] (hfree) (R0 ?_);try with_reducible exact tt
  refine A10 hl2 ?_;try with_reducible exact tt
  rw [←hs]
  exact Subs.refl _

theorem o_9l (hv:Nat→Bool) (a:Int):Eqn Tryz.prog o_6l [.p 0 0,.d (.int .i64 a)] [machO hv,tapeE] (.tup [.d (.agg (itemL (hasB hv a))),.d (.int .i64 (if hasB hv a then 0 else 9))]) [machO hv,tapeE]:=by
 have hh:=o_9a hv a
 have hcl:=o_9h
 refine Eqn.gen [0,1] o_6n (by simp) (by simp) (by rfl) (by decide) (by simp [V.low]) (by simp [V.lowl,V.low]) ?_
 cases hb:hasB hv a
 ·rw [hb] at hh
  simp only [o_6m,machO,tapeE,itemL,if_true,if_false,Bool.false_eq_true] at hh ⊢
  refine A00 ?_;try with_reducible exact tt
  refine CallS.g [0,1] (hh) (R0 ?_);try with_reducible exact tt
  refine A00 ?_;try with_reducible exact tt
 ·rw [hb] at hh
  have hb':=hb
  simp only [hasB,Bool.and_eq_true,decide_eq_true_eq] at hb'
  obtain ⟨⟨b1,b2⟩,b3⟩:=hb'
  obtain ⟨h,rfl⟩:=Int.eq_ofNat_of_zero_le (show 0≤a by omega)
  have b4:hv h=true:=by simpa using b3
  have hit:=o_8w hv (show h<17 by omega)
  rw [b4] at hit
  have hlt:(h:Int)<17:=by omega
  have hl3:1+h*11+11≤188:=by omega
  simp only [o_6m,machO,tapeE,itemL,itemV,if_true,List.map_cons,List.map_nil] at hh hcl hit ⊢
  refine A00 ?_;try with_reducible exact tt
  refine CallS.g [0,1] (hh) (R0 ?_);try with_reducible exact tt
  refine A11 (fs hit (fs hlt hl3)) hcl ?_;try with_reducible exact tt
end
section
open Go.RowKit
theorem o_9m {l:List V} {i:Nat} {a:V} (h:l[i]?=some a):∀h':i<l.length,l[i]'h'=a:=fun h'=>by
 rw [List.getElem?_eq_getElem h'] at h
 exact Option.some.inj h
theorem o_9n {l:List V} {i:Nat} {a:V} (h:l[i]?=some a):l.set i a=l:=by
 obtain ⟨hi,rfl⟩:=List.getElem?_eq_some_iff.1 h
 exact List.set_getElem_self hi
def cmdL (op h o:Int) (nums:D):D:=.agg [.int .i64 op,.int .i64 h,.int .i64 o,.int .i64 0,.int .i64 0,.int .u64 0,nums,.nilsl]
theorem o_9o {hv:Nat→Bool} {a:Int} (h:hasB hv a=true):∃n:Nat,a=n∧1≤n∧n<17∧hv n=true:=by
 simp only [hasB,Bool.and_eq_true,decide_eq_true_eq] at h
 obtain ⟨⟨b1,b2⟩,b3⟩:=h
 obtain ⟨n,rfl⟩:=Int.eq_ofNat_of_zero_le (show 0≤a by omega)
 exact ⟨n,rfl,by omega,by omega,by simpa using b3⟩
def mrgB (hv:Nat→Bool) (a:Int):Bool:=hasB hv a&&decide (a≠1)
theorem o_9p (hv:Nat→Bool) (a:Int) (h1:hv 1=true):Eqn Tryz.prog o_75 [.p 0 0,.p 0 12,.d (cmdL 5 1 a .nilsl)] [machO hv,tapeE] (.d (.agg (repL (if mrgB hv a then 0 else 9) 0))) [machO (if mrgB hv a then updB hv a.toNat false else hv),tapeE]:=by
 have hh:=o_9a hv a
 have hfl:=o_9j 9
 have hf0:=o_9j 0
 refine Eqn.gen [0,1] o_77 (by simp) (by simp) (by rfl) (by decide) (by simp [V.low]) (by simp [V.lowl,V.low]) ?_
 cases hb:hasB hv a
 ·have hm:mrgB hv a=false:=by simp [mrgB,hb]
  rw [hb] at hh
  rw [hm]
  simp only [o_76,machO,tapeE,cmdL,repL,Bool.false_eq_true,if_false] at hh hfl ⊢
  refine A00 ?_;try with_reducible exact tt
  refine CallS.g [0,1] (hh) (R0 ?_);try with_reducible exact tt
  refine A01 hfl ?_;try with_reducible exact tt
 ·by_cases ha1:a=1
  ·subst ha1
   have hm:mrgB hv 1=false:=by simp [mrgB]
   rw [hb] at hh
   rw [hm]
   simp only [o_76,machO,tapeE,cmdL,repL,Bool.false_eq_true,if_false] at hh hfl ⊢
   refine A00 ?_;try with_reducible exact tt
   refine CallS.g [0,1] (hh) (R0 ?_);try with_reducible exact tt
   refine A01 hfl ?_;try with_reducible exact tt
  ·have hm:mrgB hv a=true:=by simp [mrgB,hb,ha1]
   obtain ⟨n,rfl,n1,n2,n3⟩:=o_9o hb
   rw [hb] at hh
   rw [hm]
   have hit:=o_8w hv n2
   have k1:(mcs hv)[12]?=_:=o_8u hv (show 1<17 by omega)
   have k2:=o_8u hv n2
   have r1:((mcs hv).drop 13).take 3=_:=o_8v hv (h:=1) (j:=1) (q:=3) (by omega) (by omega)
   have r2:=o_8v hv (j:=1) (q:=3) n2 (by omega)
   have s1:((mcs hv).drop 16).take 3=_:=o_8v hv (h:=1) (j:=4) (q:=3) (by omega) (by omega)
   have s2:=o_8v hv (j:=4) (q:=3) n2 (by omega)
   have a1:=o_8t hv (h:=1) (j:=4) (by omega) (by omega)
   have a2:=o_8t hv (h:=1) (j:=5) (by omega) (by omega)
   have a3:=o_8t hv (h:=1) (j:=6) (by omega) (by omega)
   rw [h1] at k1 r1 s1 a1 a2 a3
   rw [n3] at k2 r2 s2
   have t1:=o_9n (l:=mcs hv) (i:=16) (a:=.d (.int .i64 0)) a1
   have t2:=o_9n (l:=mcs hv) (i:=17) (a:=.d (.int .i64 0)) a2
   have t3:=o_9n (l:=mcs hv) (i:=18) (a:=.d (.bool false)) a3
   have hs:=o_8y hv false n2
   have hm0:=o_9i
   have hlt:(n:Int)<17:=by omega
   have hl3:1+n*11<188:=by omega
   have hl4:1+n*11+1+3≤188:=by omega
   have hl5:1+n*11+4+3≤188:=by omega
   have hl6:1+n*11+11≤188:=by omega
   have hn1:¬n=1:=by omega
   clear hb a1 a2 a3 hit hfl
   simp only [o_76,machO,tapeE,cmdL,repL,itemV,itemL,Bool.false_eq_true,if_false,if_true,List.map_cons,List.map_nil,List.drop_succ_cons,List.drop_zero,List.take_succ_cons,List.take_zero] at hh hf0 k1 k2 r1 r2 s1 s2 hs ⊢
   have g1:=o_9m k1
   have g2:=o_9m k2
   have g0:=o_9m (o_8s hv)
   refine A00 ?_;try with_reducible exact tt
   refine CallS.g [0,1] (hh) (R0 ?_);try with_reducible exact tt
   refine A10 (fs ha1 (fs hn1 (fs hlt (fs k1 (fs k2 (fs g1 (fs g2 (fs r1 (fs r2 (fs s1 (fs s2 (fs g0 (fs hl3 (fs hl4 hl5)))))))))))))) ?_;try with_reducible exact tt
   refine CallS.g [1] (hm0) (R0 ?_);try with_reducible exact tt
   refine A11 (fs hl3 (fs hl4 (fs hl5 (fs hl6 (fs t1 (fs t2 t3)))))) hf0 ?_;try with_reducible exact tt
   rw [←hs]
   exact Subs.refl _
end
section
open Go.RowKit
theorem o_9q (hv:Nat→Bool) (l:Nat) (h1:1≤l) (h17:l≤17) (hf:∀i,1≤i→i<l→hv i=true) (hl:l<17→hv l=false) :
  Eqn Tryz.prog o_6i [.p 0 0,.d (cmdL 1 0 0 (.sl 4 [.int .i64 1,.int .i64 2,.int .i64 8,.int .i64 10]))] [machO hv,tapeE]
   (.d (.agg (if l=17 then repL 11 0 else repL 0 l))) [machO (if l=17 then hv else updB hv l true),tapeE]:=by
 have hn:=o_9k hv l h1 h17 hf hl
 generalize (if l=17 then hv else updB hv l true)=hw at *
 obtain ⟨e,h,hr⟩:∃e h,(if l=17 then repL 11 0 else repL 0 l)=repL e h:=by
  by_cases h:l=17
  ·exact ⟨11,0,by rw [if_pos h]⟩
  ·exact ⟨0,l,by rw [if_neg h]⟩
 rw [hr] at hn ⊢
 refine Eqn.gen [0,1] o_6k (by simp) (by simp) (by rfl) (by decide) (by simp [V.low]) (by simp [V.lowl,V.low]) ?_
 simp only [o_6j,machO,tapeE,repL,cmdL] at hn ⊢
 refine A00 ?_;try with_reducible exact tt
 refine CallS.g [0,1] (hn) (R0 ?_);try with_reducible exact tt
theorem o_9r (hv:Nat→Bool) {n:Nat} (n2:n<17):Eqn Tryz.prog o_6x [.p 0 0,.d (cmdL 9 n 0 .nilsl)] [machO hv,tapeE] (.d (.agg (repL 0 0))) [machO (updB hv n false),tapeE]:=by
 have hs:=o_8y hv false n2
 have hlt:(n:Int)<17:=by omega
 have hl6:1+n*11+11≤188:=by omega
 refine Eqn.gen [0,1] o_6z (by simp) (by simp) (by rfl) (by decide) (by simp [V.low]) (by simp [V.lowl,V.low]) ?_
 simp only [o_6y,machO,tapeE,repL,cmdL,itemV,itemL,Bool.false_eq_true,if_false,List.map_cons,List.map_nil] at hs ⊢
 refine A10 (fs hlt hl6) ?_;try with_reducible exact tt
 rw [←hs]
 exact Subs.refl _
theorem o_9s (hv:Nat→Bool) (a:Int) (h1:hv 1=true):Eqn Tryz.prog o_6x [.p 0 0,.d (cmdL 5 1 a .nilsl)] [machO hv,tapeE] (.d (.agg (repL (if mrgB hv a then 0 else 9) 0))) [machO (if mrgB hv a then updB hv a.toNat false else hv),tapeE]:=by
 have hm:=o_9p hv a h1
 generalize (if mrgB hv a then updB hv a.toNat false else hv)=hw at *
 generalize (if mrgB hv a then (0:Int) else 9)=e at *
 refine Eqn.gen [0,1] o_6z (by simp) (by simp) (by rfl) (by decide) (by simp [V.low]) (by simp [V.lowl,V.low]) ?_
 simp only [o_6y,machO,tapeE,repL,cmdL] at hm ⊢
 refine A00 ?_;try with_reducible exact tt
 refine CallS.g [0,1] (hm) (R0 ?_);try with_reducible exact tt
theorem o_9t (hv:Nat→Bool) (a:Int):Eqn Tryz.prog o_6i [.p 0 0,.d (cmdL 9 a 0 .nilsl)] [machO hv,tapeE] (.d (.agg (repL (if hasB hv a then 0 else 9) 0))) [machO (if hasB hv a then updB hv a.toNat false else hv),tapeE]:=by
 have hh:=o_9a hv a
 have hfl:=o_9j 9
 refine Eqn.gen [0,1] o_6k (by simp) (by simp) (by rfl) (by decide) (by simp [V.low]) (by simp [V.lowl,V.low]) ?_
 cases hb:hasB hv a
 ·rw [hb] at hh
  simp only [o_6j,machO,tapeE,repL,cmdL,Bool.false_eq_true,if_false] at hh hfl ⊢
  refine A00 ?_;try with_reducible exact tt
  refine CallS.g [0,1] (hh) (R0 ?_);try with_reducible exact tt
  refine A01 hfl ?_;try with_reducible exact tt
 ·obtain ⟨n,rfl,n1,n2,n3⟩:=o_9o hb
  have hk:=o_9r hv n2
  rw [hb] at hh
  simp only [o_6j,machO,tapeE,repL,cmdL,if_true,Int.toNat_natCast] at hh hk ⊢
  refine A00 ?_;try with_reducible exact tt
  refine CallS.g [0,1] (hh) (R0 ?_);try with_reducible exact tt
  refine A00 ?_;try with_reducible exact tt
  refine CallS.g [0,1] (hk) (R0 ?_);try with_reducible exact tt
theorem o_9u (hv:Nat→Bool) (a:Int):Eqn Tryz.prog o_6i [.p 0 0,.d (cmdL 5 1 a .nilsl)] [machO hv,tapeE] (.d (.agg (repL (if hv 1&&mrgB hv a then 0 else 9) 0))) [machO (if hv 1&&mrgB hv a then updB hv a.toNat false else hv),tapeE]:=by
 have hh:=o_9a hv 1
 have hfl:=o_9j 9
 refine Eqn.gen [0,1] o_6k (by simp) (by simp) (by rfl) (by decide) (by simp [V.low]) (by simp [V.lowl,V.low]) ?_
 have e1:hasB hv 1=hv 1:=by simp [hasB]
 rw [e1] at hh
 cases hb:hv 1
 ·rw [hb] at hh
  simp only [o_6j,machO,tapeE,repL,cmdL,Bool.false_eq_true,if_false,Bool.false_and] at hh hfl ⊢
  refine A00 ?_;try with_reducible exact tt
  refine CallS.g [0,1] (hh) (R0 ?_);try with_reducible exact tt
  refine A01 hfl ?_;try with_reducible exact tt
 ·have hk:=o_9s hv a hb
  rw [hb] at hh
  rw [Bool.true_and]
  generalize (if mrgB hv a then updB hv a.toNat false else hv)=hw at *
  generalize (if mrgB hv a then (0:Int) else 9)=e at *
  simp only [o_6j,machO,tapeE,repL,cmdL] at hh hk ⊢
  refine A00 ?_;try with_reducible exact tt
  refine CallS.g [0,1] (hh) (R0 ?_);try with_reducible exact tt
  refine A00 ?_;try with_reducible exact tt
  refine CallS.g [0,1] (hk) (R0 ?_);try with_reducible exact tt
end
section
open Go.RowKit
theorem andS (k:Int) (m:Nat) (hm:m≤4611686018427387904):∃n:Nat,bits BinOp.and IntKind.i64 k (m:Int)=n∧n≤m:=by
 refine ⟨(BitVec.ofInt 64 k).toNat &&& m,?_,Nat.and_le_right⟩
 have hm':m%2^64=m:=Nat.mod_eq_of_lt (by omega)
 have hle:(BitVec.ofInt 64 k).toNat &&& m≤m:=Nat.and_le_right
 show IntKind.i64.wrap (((BitVec.ofInt 64 k) &&& (BitVec.ofInt 64 (m:Int))).toNat:Int)=_
 rw [BitVec.toNat_and,BitVec.ofInt_natCast,BitVec.toNat_ofNat,hm']
 generalize (BitVec.ofInt 64 k).toNat &&& m=n at *
 exact w64 (by omega) (by omega)
def arB (hv:Nat→Bool):List V:=rowsF (fun i=>[.d (.bool (hv i))]) 0 17
theorem o_9v (hv:Nat→Bool):(arB hv).length=17:=o_8h (s:=1) (fun _=>rfl) 17 0
theorem o_9w (hv:Nat→Bool) {h:Nat} (hh:h<17):(arB hv)[h]?=some (.d (.bool (hv h))):=by
 have:=o_8n (f:=fun i=>[.d (.bool (hv i))]) (s:=1) (fun _=>rfl) (n:=17) (i:=h) (j:=0) hh (by omega)
 rw [show h*1+0=h by omega] at this
 exact this
theorem o_9x (hv:Nat→Bool) {h:Nat} (b:Bool) (hh:h<17):(arB hv).set h (.d (.bool b))=arB (updB hv h b):=by
 have:=o_8m (f:=fun i=>[.d (.bool (hv i))]) (g:=fun i=>[.d (.bool (updB hv h b i))]) (s:=1) (fun _=>rfl) hh rfl (fun j hj=>by simp [updB,hj])
 rw [show h*1=h by omega,show updB hv h b h=b by simp [updB]] at this
 exact this
theorem o_9y (hv:Nat→Bool) (m:Nat):∀n k,V.lowl m (rowsF (fun i=>[.d (.bool (hv i))]) k n)=true
 | 0,_=>rfl
 | n+1,k=>o_90 m [.d (.bool (hv k))] _ rfl (o_9y hv m n (k+1))
@[simp] theorem o_9z (hv:Nat→Bool) (m:Nat):V.lowl m (arB hv)=true:=o_9y hv m 17 0
@[simp] theorem o_a0 (hv:Nat→Bool):V.lowl 3 (mcs hv)=true:=o_92 hv (by omega)
def Lst (hv:Nat→Bool) (k t:Nat):Prop:=(t=0∧∀i,k<i→i≤16→hv i=true)∨(k<t∧t≤16∧hv t=false∧∀i,k<i→i<t→hv i=true)
theorem o_a1 (hv:Nat→Bool):Lst hv 16 0:=.inl ⟨rfl,fun i h1 h2=>by omega⟩
theorem o_a2 {hv:Nat→Bool} {k t:Nat} (h:Lst hv (k+1) t) (hk:k+1≤16) (hf:hv (k+1)=false):Lst hv k (k+1):=.inr ⟨by omega,hk,hf,fun i h1 h2=>by omega⟩
theorem o_a3 {hv:Nat→Bool} {k t:Nat} (h:Lst hv (k+1) t) (hf:hv (k+1)=true):Lst hv k t:=by
 have g:∀i,k<i→¬k+1<i→hv i=true:=fun i h1 h2=>by rw [show i=k+1 by omega];exact hf
 rcases h with ⟨h1,h2⟩ | ⟨h1,h2,h3,h4⟩
 ·exact .inl ⟨h1,fun i h3 h4=>if h:k+1<i then h2 i h h4 else g i h3 h⟩
 ·exact .inr ⟨by omega,h2,h3,fun i h5 h6=>if h:k+1<i then h4 i h h6 else g i h5 h⟩
theorem o_a4 {hv:Nat→Bool} {t:Nat} (h:Lst hv 0 t):∃l,1≤l∧l≤17∧(∀i,1≤i→i<l→hv i=true)∧(l<17→hv l=false)∧((t=0∧l=17)∨(t≠0∧l=t∧l<17)):=by
 rcases h with ⟨h1,h2⟩ | ⟨h1,h2,h3,h4⟩
 ·exact ⟨17,by omega,by omega,fun i a b=>h2 i (by omega) (by omega),fun h=>by omega,.inl ⟨h1,rfl⟩⟩
 ·exact ⟨t,by omega,by omega,fun i a b=>h4 i (by omega) b,fun _=>h3,.inr ⟨by omega,rfl,by omega⟩⟩
theorem o_a5 (hv:Nat→Bool) (h0:hv 0=false) {k:Nat} (hk:k<17):hasB hv (k:Int)=hv k:=by
 rcases Nat.eq_zero_or_pos k with rfl | h
 ·simp [hasB,h0]
 ·have h1:(1:Int)≤k:=by omega
  have h2:(k:Int)≤16:=by omega
  simp only [hasB,h1,h2,decide_true,Bool.true_and,Int.toNat_natCast]

theorem o_a6 (hv:Nat→Bool):∀n k,k+n=16→∃t,Lst hv k t
 | 0,k,h=>by rw [show k=16 by omega];exact ⟨0,o_a1 hv⟩
 | n+1,k,h=>by
  obtain ⟨t,ht⟩:=o_a6 hv n (k+1) (by omega)
  cases hf:hv (k+1)
  ·exact ⟨k+1,o_a2 ht (by omega) hf⟩
  ·exact ⟨t,o_a3 ht hf⟩
theorem o_a7 {hv:Nat→Bool} {t l:Nat} (h:Lst hv 0 t) (h1:1≤l) (h17:l≤17) (hf:∀i,1≤i→i<l→hv i=true) (hl:l<17→hv l=false):(t=0∧l=17)∨(t=l∧l<17):=by
 rcases h with ⟨a1,a2⟩ | ⟨a1,a2,a3,a4⟩
 ·left
  refine ⟨a1,?_⟩
  by_cases h:l<17
  ·have:=a2 l (by omega) (by omega)
   rw [hl h] at this;cases this
  ·omega
 ·right
  have h5:¬t<l:=fun h=>by have:=hf t (by omega) h;rw [a3] at this;cases this
  have h6:¬l<t:=fun h=>by have:=a4 l (by omega) h;rw [hl (by omega)] at this;cases this
  omega
def StepR (hv:Nat→Bool) (a:Int) (q:Nat) (hw:Nat→Bool):Prop :=
 (q≤1∧∃l,1≤l∧l≤17∧(∀i,1≤i→i<l→hv i=true)∧(l<17→hv l=false)∧hw=if l=17 then hv else updB hv l true) ∨
 (q=2∧hw=if hasB hv a then updB hv a.toNat false else hv)∨(q=3∧hw=if hv 1&&mrgB hv a then updB hv a.toNat false else hv)
theorem o_a8 {hv:Nat→Bool} (h0:hv 0=false) {n:Nat} (hn:1≤n) (b:Bool):updB hv n b 0=false:=by
 unfold updB;rw [if_neg (by omega)];exact h0
theorem o_a9 (hv:Nat→Bool) (h0:hv 0=false) (a:Int) (q:Nat) (hq:q≤3):∃hw,hw 0=false∧StepR hv a q hw:=by
 have hn:∀b,hasB hv b=true→1≤b.toNat:=fun b hb=>by
  obtain ⟨n,rfl,n1,-⟩:=o_9o hb
  simpa using n1
 by_cases h1:q≤1
 ·obtain ⟨t,ht⟩:=o_a6 hv 16 0 rfl
  obtain ⟨l,l1,l2,l3,l4,-⟩:=o_a4 ht
  refine ⟨_,?_,.inl ⟨h1,l,l1,l2,l3,l4,rfl⟩⟩
  split
  ·exact h0
  ·exact o_a8 h0 l1 _
 by_cases h2:q=2
 ·refine ⟨_,?_,.inr (.inl ⟨h2,rfl⟩)⟩
  split
  ·rename_i hb;exact o_a8 h0 (hn a hb) _
  ·exact h0
 ·refine ⟨_,?_,.inr (.inr ⟨by omega,rfl⟩)⟩
  split
  ·rename_i hb
   simp only [mrgB,Bool.and_eq_true] at hb
   exact o_a8 h0 (hn a hb.2.1) _
  ·exact h0
end
section
open Go.RowKit
theorem o_aa {x y:V} {l r:List V} (h1:Sub1 x y) (h2:Subs l r):Subs (x::l) (y::r):=fun m vs h=>by
 obtain ⟨v,q,e,h3,h4⟩:=V.reps_cons'.1 h
 exact e▸V.reps_cons.2 ⟨h1 m v h3,h2 m q h4⟩
set_option maxHeartbeats 4000000 in
theorem o_ab (ac:List Int) (hac:ac.length≤9223372036854775807):Eqn Tryz.prog o_6c [.d (.sl ac.length (ac.map (.int .i64)))] [] (.d (.bool true)) []:=by
 have haw:=o_9e
 have hbt:=o_9f
 refine Eqn.pure o_6e (o_5d _) ?_
 simp only [o_6d]
 refine A01 haw ?_;try with_reducible exact tt
 refine CallS.g [] (hbt) (R0 ?_);try with_reducible exact tt
 refine A00 ?_;try with_reducible exact tt
 refine AW.loopE (α:=Nat×(Nat→Bool)) (fun s=>[.d (.sl ac.length (ac.map (.int .i64))),.junk,.junk,.p 0 0,.p 2 0,.d (.int .i64 (s.1:Nat))]++List.replicate 153 .junk) (fun s=>[some (machO s.2),some tapeE,some ⟨57,arB s.2⟩]) (fun s=>s.1≤60∧s.2 0=false) (fun s=>60-s.1) (0,fun _=>false) (fun _ _=>Nat.zero_le _) ⟨Nat.zero_le _,rfl⟩ ?_ ?_ ?_
 ·simp
 ·simp
  exact ⟨by rw [o_96 _ rfl];exact Subs.refl _,Subs.of rfl⟩
 rintro ⟨i,hv⟩ ⟨hi,h0⟩
 simp only at hi h0 ⊢
 by_cases hic:i<ac.length∧i<60
 rotate_left
 ·have hic':¬((i:Int)<(ac.length:Int))∨((i:Int)<(ac.length:Int))∧¬((i:Int)<60):=by omega
  rcases hic' with h1 | ⟨h1,h2⟩
  ·refine A10 h1 ?_;try with_reducible exact tt
  ·refine A10 (fs h1 h2) ?_;try with_reducible exact tt
 obtain ⟨hi1,hi2⟩:=hic
 have hi1':(i:Int)<(ac.length:Int):=by omega
 have hi2':(i:Int)<60:=by omega
 obtain ⟨u,hu,hu31⟩:=andS (ac[i]/4) 31 (by omega)
 obtain ⟨q,hq,hq3⟩:=andS ac[i] 3 (by omega)
 have hw:IntKind.i64.wrap ((u:Int)-4)=(u:Int)-4:=w64 (by omega) (by omega)
 have hget:(ac.map (D.int .i64))[i]?=some (.int .i64 ac[i]):=by simp [hi1]
 have hge2:∀h,(ac.map (D.int .i64))[i]'h = .int .i64 ac[i]:=fun h=>by simp
 have hal:=o_9v hv
 replace hu:bits BinOp.and IntKind.i64 (ac[i]/4) 31=u:=hu
 replace hq:bits BinOp.and IntKind.i64 ac[i] 3=q:=hq
 obtain ⟨a,ha⟩:∃a,a=(u:Int)-4:=⟨_,rfl⟩
 rw [←ha] at hw
 have haa:(u:Int)-4=a:=ha.symm
 generalize ac[i]=y at *
 obtain ⟨hw',h0',hst⟩:=o_a9 hv h0 a q hq3
 refine AW.seq ?_
 refine AW.meet ([.d (.sl ac.length (ac.map (.int .i64))),.junk,.junk,.p 0 0,.p 2 0,.d (.int .i64 (i:Nat))]++List.replicate 153 .junk) [some (machO hv),some tapeE,some ⟨57,arB hv⟩] (Nat.zero_le _) ?_ ?_
 ·refine A10 (fs hi1' hi2') ?_;try with_reducible exact tt
 refine AW.seq ?_
 refine AW.meet ([.d (.sl ac.length (ac.map (.int .i64))),.junk,.junk,.p 0 0,.p 2 0,.d (.int .i64 (i:Nat))]++List.replicate 153 .junk) [some (machO hw'),some tapeE,some ⟨57,arB hw'⟩] (Nat.zero_le _) ?_ ?_
 rotate_left
 ·have hwi:IntKind.i64.wrap ((i:Int)+1)=((i:Int)+1):=w64 (by omega) (by omega)
  refine A10 hwi ?_;try with_reducible exact tt
  exact ⟨i+1,hw',⟨by omega,h0'⟩,by omega,by simp,Subs.refl _,Subs.refl _⟩
 refine AW.block ?_
 refine AW.seq ?_
 refine AW.meet ([.d (.sl ac.length (ac.map (.int .i64))),.junk,.junk,.p 0 0,.p 2 0,.d (.int .i64 (i:Nat)),.d (.int .i64 a)]++List.replicate 152 .junk) [some (machO hv),some tapeE,some ⟨57,arB hv⟩] (Nat.zero_le _) ?_ ?_
 ·refine A10 (fs hi1' (fs hi1 (fs hget (fs hge2 (fs hu (fs haa hw)))))) ?_;try with_reducible exact tt
 refine AW.seq ?_
 refine AW.meet ([.d (.sl ac.length (ac.map (.int .i64))),.junk,.junk,.p 0 0,.p 2 0,.d (.int .i64 (i:Nat)),.d (.int .i64 a),.d (.bool (hasB hv a))]++List.replicate 151 .junk) [some (machO hv),some tapeE,some ⟨57,arB hv⟩] (Nat.zero_le _) ?_ ?_
 ·by_cases h1:1≤a
  ·by_cases h2:a≤16
   ·obtain ⟨n,rfl⟩:=Int.eq_ofNat_of_zero_le (show 0≤a by omega)
    have hn:n<17:=by omega
    have ha:=o_9w hv hn
    have hg:=o_9m ha
    have hb:=o_a5 hv h0 hn
    have hn':(n:Int)<17:=by omega
    have hn1:1≤n:=by omega
    rw [hb]
    refine A10 (fs h1 (fs h2 (fs hn' (fs hn (fs hal (fs ha (fs hg hn1))))))) ?_;try with_reducible exact tt
   ·have hb:hasB hv a=false:=by simp [hasB,h2]
    rw [hb]
    refine A10 (fs h1 h2) ?_;try with_reducible exact tt
  ·have hb:hasB hv a=false:=by simp [hasB,h1]
   rw [hb]
   refine A10 h1 ?_;try with_reducible exact tt
 refine AW.seq ?_
 refine AW.meet ([.d (.sl ac.length (ac.map (.int .i64))),.junk,.junk,.p 0 0,.p 2 0,.d (.int .i64 (i:Nat))]++List.replicate 153 .junk) [some (machO hw'),some tapeE,some ⟨57,arB hw'⟩] (Nat.zero_le _) ?_ ?_
 rotate_left
 ·refine A00 ?_;try with_reducible exact tt
  refine AW.loopE (α:=Nat) (fun k=>[.d (.sl ac.length (ac.map (.int .i64))),.junk,.junk,.p 0 0,.p 2 0,.d (.int .i64 (i:Nat))]++List.replicate 137 .junk++[.d (.int .i64 (k:Nat))]++List.replicate 15 .junk) (fun _=>[some (machO hw'),some tapeE,some ⟨57,arB hw'⟩]) (fun k=>k≤17) (fun k=>17-k) 0 (fun _ _=>Nat.zero_le _) (by omega) ?_ ?_ ?_
  ·simp
  ·simp
  intro k hk
  by_cases hk17:k<17
  ·have hk1:(k:Int)<17:=by omega
   have hsk:=o_9l hw' (k:Int)
   have hka:=o_9w hw' hk17
   have hkg:=o_9m hka
   have hkw:IntKind.i64.wrap ((k:Int)+1)=(k:Int)+1:=w64 (by omega) (by omega)
   have hkl:=o_9v hw'
   rw [o_a5 hw' h0' hk17] at hsk
   cases hb:hw' k
   ·rw [hb] at hsk hka hkg
    simp only [machO,tapeE,itemL,Bool.false_eq_true,if_false] at hsk ⊢
    refine A10 hk1 ?_;try with_reducible exact tt
    refine CallS.g [0,1] (hsk) (R1 (fs hk1 (fs hk17 (fs hka (fs hkg (fs hkl hkw))))) ?_);try with_reducible exact tt
    refine A10 (fs hk1 (fs hk17 (fs hka (fs hkg (fs hkl hkw))))) ?_;try with_reducible exact tt
    exact ⟨k+1,by omega,by omega,by simp⟩
   ·rw [hb] at hsk hka hkg
    simp only [machO,tapeE,itemL,if_true] at hsk ⊢
    refine A10 hk1 ?_;try with_reducible exact tt
    refine CallS.g [0,1] (hsk) (R1 (fs hk1 (fs hk17 (fs hka (fs hkg (fs hkl hkw))))) ?_);try with_reducible exact tt
    refine A10 (fs hk1 (fs hk17 (fs hka (fs hkg (fs hkl hkw))))) ?_;try with_reducible exact tt
    exact ⟨k+1,by omega,by omega,by simp⟩
  ·have hk1:¬(k:Int)<17:=by omega
   refine A10 hk1 ?_;try with_reducible exact tt
 refine AW.seq ?_
 refine AW.meet ([.d (.sl ac.length (ac.map (.int .i64))),.junk,.junk,.p 0 0,.p 2 0,.d (.int .i64 (i:Nat)),.d (.int .i64 a),.d (.bool (hasB hv a))]++List.replicate 44 .junk++[.d (.int .i64 (q:Nat))]++List.replicate 106 .junk) [some (machO hv),some tapeE,some ⟨57,arB hv⟩] (Nat.zero_le _) ?_ ?_
 ·refine A10 (fs hi1' (fs hi1 (fs hget (fs hge2 hq)))) ?_;try with_reducible exact tt
 have hha:=o_9a hv a
 have halw:=o_9v hw'
 rcases hst with ⟨hq1,l,l1,l17,lf,lu,rfl⟩ | ⟨rfl,rfl⟩ | ⟨rfl,rfl⟩
 ·have hq':q=0∨q=1:=by omega
  have hd:=o_9q hv l l1 l17 lf lu
  have hl17:=o_9v hv
  rcases hq' with rfl | rfl
  ·refine A00 ?_;try with_reducible exact tt
   refine AW.loopE (α:=Nat×Nat) (fun s=>[.d (.sl ac.length (ac.map (.int .i64))),.junk,.junk,.p 0 0,.p 2 0,.d (.int .i64 (i:Nat)),.d (.int .i64 a),.d (.bool (hasB hv a)),.d (.int .i64 (s.2:Nat)),.d (.int .i64 (s.1:Nat))]++List.replicate 149 .junk) (fun _=>[some (machO hv),some tapeE,some ⟨57,arB hv⟩]) (fun s=>s.1≤16∧Lst hv s.1 s.2) (fun s=>s.1) (16,0) (fun _ _=>Nat.zero_le _) ⟨Nat.le_refl _,o_a1 hv⟩ ?_ ?_ ?_
   ·simp
   ·simp
   rintro ⟨k,t⟩ ⟨hk,hL⟩
   simp only at hk hL ⊢
   by_cases hk1:1≤k
   ·have hki:(1:Int)≤(k:Int):=by omega
    have hk17:k<17:=by omega
    have hki2:(k:Int)<17:=by omega
    have hka:=o_9w hv hk17
    have hkg:=o_9m hka
    have hkw:IntKind.i64.wrap ((k:Int)-1)=(k:Int)-1:=w64 (by omega) (by omega)
    have hkc:(k:Int)-1=((k-1:Nat):Int):=by omega
    have hks:k-1+1=k:=by omega
    cases hb:hv k
    ·rw [hb] at hka hkg
     refine A10 (fs hk1 (fs hki (fs hk17 (fs hki2 (fs hka (fs hkg (fs hl17 hkw))))))) ?_;try with_reducible exact tt
     have:=o_a2 (k:=k-1) (t:=t) (by rw [hks];exact hL) (by omega) (by rw [hks];exact hb)
     rw [hks] at this
     exact ⟨k-1,k,⟨by omega,this⟩,by omega,by simp,by rw [hkc];exact fun _ _ h=>h⟩
    ·rw [hb] at hka hkg
     refine A10 (fs hk1 (fs hki (fs hk17 (fs hki2 (fs hka (fs hkg (fs hl17 hkw))))))) ?_;try with_reducible exact tt
     have:=o_a3 (k:=k-1) (t:=t) (by rw [hks];exact hL) (by rw [hks];exact hb)
     exact ⟨k-1,t,⟨by omega,this⟩,by omega,by simp,by rw [hkc];exact fun _ _ h=>h⟩
   ·obtain rfl:k=0:=by omega
    have hs:=fun h=>o_9x hv (h:=l) true h
    rcases o_a7 hL l1 l17 lf lu with ⟨rfl,rfl⟩ | ⟨rfl,hlt⟩
    ·simp only [machO,tapeE,cmdL,repL,if_true] at hd ⊢
     refine A00 ?_;try with_reducible exact tt
     refine CallS.genF 3 1 ⟨3,[.d (.int .i64 1),.d (.int .i64 2),.d (.int .i64 8),.d (.int .i64 10)]⟩ [.int .i64 1,.int .i64 2,.int .i64 8,.int .i64 10] [0,1] hd rfl (by simp) (by decide) (by first | ((repeat (first | exact o_5x | refine o_5y rfl rfl ?_));done) | (simp;done)) (by first | rfl | (simp;done)) (o_aa (fun _ _ h=>h) (o_aa (V.norm1_sub (.agg [.d (.int .i64 1),.d (.int .i64 0),.d (.int .i64 0),.d (.int .i64 0),.d (.int .i64 0),.d (.int .u64 0),.d (.sl 4 [.int .i64 1,.int .i64 2,.int .i64 8,.int .i64 10]),.d .nilsl])) (Subs.refl []))) (R0 ?_);try with_reducible exact tt
     refine A00 ?_;try with_reducible exact tt
    ·have hln:¬t=17:=by omega
     have ht0:¬t=0:=by omega
     have hti:(t:Int)<17:=by omega
     have hs:=o_9x hv true hlt
     simp only [machO,tapeE,cmdL,repL,if_neg hln] at hd ⊢
     refine A00 ?_;try with_reducible exact tt
     refine CallS.genF 3 1 ⟨3,[.d (.int .i64 1),.d (.int .i64 2),.d (.int .i64 8),.d (.int .i64 10)]⟩ [.int .i64 1,.int .i64 2,.int .i64 8,.int .i64 10] [0,1] hd rfl (by simp) (by decide) (by first | ((repeat (first | exact o_5x | refine o_5y rfl rfl ?_));done) | (simp;done)) (by first | rfl | (simp;done)) (o_aa (fun _ _ h=>h) (o_aa (V.norm1_sub (.agg [.d (.int .i64 1),.d (.int .i64 0),.d (.int .i64 0),.d (.int .i64 0),.d (.int .i64 0),.d (.int .u64 0),.d (.sl 4 [.int .i64 1,.int .i64 2,.int .i64 8,.int .i64 10]),.d .nilsl])) (Subs.refl []))) (R0 ?_);try with_reducible exact tt
     refine A10 (fs hln (fs ht0 (fs hti (fs hlt (fs hs hl17))))) ?_;try with_reducible exact tt
  ·refine A00 ?_;try with_reducible exact tt
   refine AW.loopE (α:=Nat×Nat) (fun s=>[.d (.sl ac.length (ac.map (.int .i64))),.junk,.junk,.p 0 0,.p 2 0,.d (.int .i64 (i:Nat)),.d (.int .i64 a),.d (.bool (hasB hv a)),.d (.int .i64 (s.2:Nat)),.d (.int .i64 (s.1:Nat))]++List.replicate 149 .junk) (fun _=>[some (machO hv),some tapeE,some ⟨57,arB hv⟩]) (fun s=>s.1≤16∧Lst hv s.1 s.2) (fun s=>s.1) (16,0) (fun _ _=>Nat.zero_le _) ⟨Nat.le_refl _,o_a1 hv⟩ ?_ ?_ ?_
   ·simp
   ·simp
   rintro ⟨k,t⟩ ⟨hk,hL⟩
   simp only at hk hL ⊢
   by_cases hk1:1≤k
   ·have hki:(1:Int)≤(k:Int):=by omega
    have hk17:k<17:=by omega
    have hki2:(k:Int)<17:=by omega
    have hka:=o_9w hv hk17
    have hkg:=o_9m hka
    have hkw:IntKind.i64.wrap ((k:Int)-1)=(k:Int)-1:=w64 (by omega) (by omega)
    have hkc:(k:Int)-1=((k-1:Nat):Int):=by omega
    have hks:k-1+1=k:=by omega
    cases hb:hv k
    ·rw [hb] at hka hkg
     refine A10 (fs hk1 (fs hki (fs hk17 (fs hki2 (fs hka (fs hkg (fs hl17 hkw))))))) ?_;try with_reducible exact tt
     have:=o_a2 (k:=k-1) (t:=t) (by rw [hks];exact hL) (by omega) (by rw [hks];exact hb)
     rw [hks] at this
     exact ⟨k-1,k,⟨by omega,this⟩,by omega,by simp,by rw [hkc];exact fun _ _ h=>h⟩
    ·rw [hb] at hka hkg
     refine A10 (fs hk1 (fs hki (fs hk17 (fs hki2 (fs hka (fs hkg (fs hl17 hkw))))))) ?_;try with_reducible exact tt
     have:=o_a3 (k:=k-1) (t:=t) (by rw [hks];exact hL) (by rw [hks];exact hb)
     exact ⟨k-1,t,⟨by omega,this⟩,by omega,by simp,by rw [hkc];exact fun _ _ h=>h⟩
   ·obtain rfl:k=0:=by omega
    have hs:=fun h=>o_9x hv (h:=l) true h
    rcases o_a7 hL l1 l17 lf lu with ⟨rfl,rfl⟩ | ⟨rfl,hlt⟩
    ·simp only [machO,tapeE,cmdL,repL,if_true] at hd ⊢
     refine A00 ?_;try with_reducible exact tt
     refine CallS.genF 3 1 ⟨3,[.d (.int .i64 1),.d (.int .i64 2),.d (.int .i64 8),.d (.int .i64 10)]⟩ [.int .i64 1,.int .i64 2,.int .i64 8,.int .i64 10] [0,1] hd rfl (by simp) (by decide) (by first | ((repeat (first | exact o_5x | refine o_5y rfl rfl ?_));done) | (simp;done)) (by first | rfl | (simp;done)) (o_aa (fun _ _ h=>h) (o_aa (V.norm1_sub (.agg [.d (.int .i64 1),.d (.int .i64 0),.d (.int .i64 0),.d (.int .i64 0),.d (.int .i64 0),.d (.int .u64 0),.d (.sl 4 [.int .i64 1,.int .i64 2,.int .i64 8,.int .i64 10]),.d .nilsl])) (Subs.refl []))) (R0 ?_);try with_reducible exact tt
     refine A00 ?_;try with_reducible exact tt
    ·have hln:¬t=17:=by omega
     have ht0:¬t=0:=by omega
     have hti:(t:Int)<17:=by omega
     have hs:=o_9x hv true hlt
     simp only [machO,tapeE,cmdL,repL,if_neg hln] at hd ⊢
     refine A00 ?_;try with_reducible exact tt
     refine CallS.genF 3 1 ⟨3,[.d (.int .i64 1),.d (.int .i64 2),.d (.int .i64 8),.d (.int .i64 10)]⟩ [.int .i64 1,.int .i64 2,.int .i64 8,.int .i64 10] [0,1] hd rfl (by simp) (by decide) (by first | ((repeat (first | exact o_5x | refine o_5y rfl rfl ?_));done) | (simp;done)) (by first | rfl | (simp;done)) (o_aa (fun _ _ h=>h) (o_aa (V.norm1_sub (.agg [.d (.int .i64 1),.d (.int .i64 0),.d (.int .i64 0),.d (.int .i64 0),.d (.int .i64 0),.d (.int .u64 0),.d (.sl 4 [.int .i64 1,.int .i64 2,.int .i64 8,.int .i64 10]),.d .nilsl])) (Subs.refl []))) (R0 ?_);try with_reducible exact tt
     refine A10 (fs hln (fs ht0 (fs hti (fs hlt (fs hs hl17))))) ?_;try with_reducible exact tt
 ·have hd:=o_9t hv a
  cases hb:hasB hv a
  ·rw [hb] at hd
   simp only [machO,tapeE,cmdL,repL,Bool.false_eq_true,if_false] at hd
   refine A00 ?_;try with_reducible exact tt
   refine CallS.g [0,1] (hd) (R0 ?_);try with_reducible exact tt
   refine A00 ?_;try with_reducible exact tt
  ·obtain ⟨n,rfl,n1,n2,n3⟩:=o_9o hb
   have hs:=o_9x hv false n2
   have hn':(n:Int)<17:=by omega
   rw [hb] at hd
   simp only [machO,tapeE,cmdL,repL,if_true,Int.toNat_natCast] at hd ⊢
   refine A00 ?_;try with_reducible exact tt
   refine CallS.g [0,1] (hd) (R0 ?_);try with_reducible exact tt
   refine A10 (fs hn' (fs n2 (fs hal hs))) ?_;try with_reducible exact tt
 ·have hd:=o_9u hv a
  have ha1:=o_9w hv (show 1<17 by omega)
  have hg1:=o_9m ha1
  cases hb:hasB hv a
  ·have hm:(hv 1&&mrgB hv a)=false:=by simp [mrgB,hb]
   rw [hm] at hd ⊢
   simp only [machO,tapeE,cmdL,repL,Bool.false_eq_true,if_false] at hd ⊢
   refine A00 ?_;try with_reducible exact tt
   refine CallS.g [0,1] (hd) (R0 ?_);try with_reducible exact tt
   refine A00 ?_;try with_reducible exact tt
  ·cases hv1:hv 1
   ·have hm:(hv 1&&mrgB hv a)=false:=by simp [hv1]
    rw [hm] at hd
    rw [hv1] at ha1 hg1
    simp only [machO,tapeE,cmdL,repL,Bool.false_eq_true,if_false,Bool.false_and] at hd ⊢
    refine A00 ?_;try with_reducible exact tt
    refine CallS.g [0,1] (hd) (R1 (fs hal (fs ha1 hg1)) ?_);try with_reducible exact tt
    refine A10 (fs hal (fs ha1 hg1)) ?_;try with_reducible exact tt
   ·rw [hv1] at ha1 hg1
    by_cases haa1:a=1
    ·have hm:(hv 1&&mrgB hv a)=false:=by simp [mrgB,haa1]
     rw [hm] at hd
     have hm2:mrgB hv a=false:=by simp [mrgB,haa1]
     subst haa1
     simp only [machO,tapeE,cmdL,repL,Bool.false_eq_true,if_false,hm2,Bool.and_false] at hd ⊢
     refine A00 ?_;try with_reducible exact tt
     refine CallS.g [0,1] (hd) (R1 (fs hal (fs ha1 hg1)) ?_);try with_reducible exact tt
     refine A10 (fs hal (fs ha1 hg1)) ?_;try with_reducible exact tt
    ·have hm2:mrgB hv a=true:=by simp [mrgB,haa1,hb]
     obtain ⟨n,rfl,n1,n2,n3⟩:=o_9o hb
     have hs:=o_9x hv false n2
     have hn':(n:Int)<17:=by omega
     have hn1:¬n=1:=by omega
     simp only [machO,tapeE,cmdL,repL,hm2,hv1,Bool.and_self,if_true,Int.toNat_natCast] at hd ⊢
     refine A00 ?_;try with_reducible exact tt
     refine CallS.g [0,1] (hd) (R1 (fs hal (fs ha1 (fs hg1 (fs haa1 (fs hn1 (fs hn' (fs n2 hs))))))) ?_);try with_reducible exact tt
     refine A10 (fs hal (fs ha1 (fs hg1 (fs haa1 (fs hn1 (fs hn' (fs n2 hs))))))) ?_;try with_reducible exact tt
end
section
open Go.RowKit

theorem o_ac {P:Program} {f:FuncId} {c:C} {rs:List RV} {nt:Nat} (hf:fnOf P f=some (c,rs,nt,false)) (vs:Array Value) (w:World):(callFunc f vs).run P w = .ok (.enter f vs) w:=by
 unfold fnOf at hf
 split at hf
 ·rename_i fn hfn
  split at hf
  ·rename_i b hb
   simp only [Option.some.injEq,Prod.mk.injEq] at hf
   obtain ⟨h1,h2,h3,h4⟩:=hf
   have h1 : ¬ fn.name = "runtime.NumGoroutine" := by simpa using h4
   simp [callFunc,hfn,h1,hb]
  ·cases hf
 ·cases hf

abbrev memW (W:World):Mem:=⟨fun _=>none,fun b=>b<W.heap.size,W⟩

theorem o_ad {P:Program} {f:FuncId} {args:List V} {c:C} {rs:List RV} {nt:Nat} (hf:fnOf P f=some (c,rs,nt,false)) (E:Eqn P f args [] (.d (.bool true)) []) {W:World} {vs:List Value} (h:V.reps (memW W) args vs) (ht:Tabs (memW W)) :
  Calls P f vs.toArray W (fun e W'=>e = .returned (.bool true)∧Same W W'):=by
 rcases E.run (memW W) vs ⟨fun b h=>h,fun n b h=>(by cases h),ht⟩ h (by simp) (fun n i b h=>by simp at h) (fun _ _=>rfl) with ⟨v,h1,_⟩ | ⟨_,h2⟩
 ·rw [o_ac hf] at h1;cases h1
 ·refine h2.mono ?_
  rintro e w' ⟨v,m',rfl,rfl,hE⟩
  have hv:=hE.rep
  rw [V.rep_d] at hv
  unfold D.rep at hv
  subst hv
  exact ⟨rfl,hE.le.os,hE.le.tape,hE.le.output,hE.le.size,fun k hk _=>hE.le.imm k hk⟩

theorem reps_of {I:Nat→Prop} {w:World} {α:Type} (f:α→D) (g:α→Value) (h:∀a,D.rep I w (f a) (g a)):∀l:List α,D.reps I w (l.map f) (l.map g)
 | []=>by simp
 | a::l=>by
  rw [List.map_cons,List.map_cons,D.reps_cons]
  exact ⟨h a,reps_of f g h l⟩

theorem o_ae {W:World} {v:Value} {α:Type} {l:List α} (f:α→D) (g:α→Value) (hg:∀a,(g a).oneCell'=true) (hr:∀a,D.rep (fun b=>b<W.heap.size) W (f a) (g a)) (h:Cells W v 1 l.length (l.map g)):V.rep (memW W) (.d (.sl l.length (l.map f))) v:=by
 rw [V.rep_d]
 unfold D.rep
 obtain ⟨h1,p,cap,rfl,h2,h3,h4⟩:=h
 refine ⟨p,cap,rfl,h2,h3,l.map g,fun u hu=>?_,reps_of f g hr l,?_⟩
 ·obtain ⟨a,-,rfl⟩:=List.mem_map.1 hu
  exact hg a
 ·rcases h4 with ⟨rfl,h5,h6⟩ | ⟨b,o,rfl,hb,hc⟩
  ·left
   exact ⟨rfl,h6,by rw [List.eq_nil_of_length_eq_zero h5];rfl⟩
  ·exact .inr ⟨b,o,rfl,.inr hb,hc⟩
end
section
open Go.RowKit
theorem o_af {W:World} {g0:Nat} {zs:List Int} (ht:∀g l,tab g=some l→g=g0∧l=zs.map fun z:Int=>D.int .u64 z) (hlt:g0<W.heap.size) (hc:∀(i:Nat) u,(zs.map (Value.int .u64))[i]?=some u→W.cell? ⟨g0,i,none⟩=some u):Tabs (memW W):=by
 intro g l hg
 obtain ⟨rfl,rfl⟩:=ht g l hg
 unfold D.rep
 refine ⟨g,0,rfl,hlt,zs.map (Value.int .u64),fun u hu=>?_,reps_of (fun z:Int=>D.int .u64 z) (Value.int .u64) (fun _=>by unfold D.rep;rfl) zs,fun i u hu=>?_⟩
 ·obtain ⟨z,-,rfl⟩:=List.mem_map.1 hu
  rfl
 ·rw [Nat.zero_add];exact hc i u hu
end
section
open Go.RowKit

theorem tabsIn {W:World} {g0:Nat} {zs:List Int} (ht:∀g l,tab g=some l→g=g0∧l=zs.map fun z:Int=>D.int .u64 z) (hlt:g0<W.heap.size) (hc:∀(i:Nat) u,(zs.map (Value.int .u64))[i]?=some u→W.cell? ⟨g0,i,none⟩=some u):Tabs (memW W):=o_af ht hlt hc
theorem tabAll:∀g l,tab g=some l→g=2∧l=([1,10,100,1000,10000,100000,1000000,10000000,100000000,1000000000,10000000000,100000000000,1000000000000,10000000000000,100000000000000,1000000000000000,10000000000000000,100000000000000000,1000000000000000000,10000000000000000000]:List Int).map fun z:Int=>D.int .u64 z:=by
 intro g l h
 unfold tab at h
 split at h
 ·cases h
  exact ⟨‹_›,rfl⟩
 ·cases h
end
section
open Go.RowKit
end
section
open Go.RowKit
end
section
open Go.RowKit

theorem sh_walk {W:World} (ht:Tabs (memW W)) {v0:Value} {L0:List Int} (w0:Cells W v0 1 L0.length (L0.map fun a=>[Value.int .i64 a]).flatten) (h0:L0.length≤maxLen):Calls Tryz.prog o_6c #[v0] W (fun e W'=>e = .returned (.bool true)∧Same W W'):=by
 have hw:Cells W v0 1 L0.length (L0.map fun n:Int=>Value.int .i64 n):=by
  have e:(L0.map fun a=>[Value.int .i64 a]).flatten=L0.map fun n:Int=>Value.int .i64 n:=by
   clear w0 h0
   induction L0 with
   | nil=>rfl
   | cons x l ih=>simp only [List.map_cons,List.flatten_cons,ih];rfl
  rw [e] at w0;exact w0
 have hr:=o_ae (fun n:Int=>D.int .i64 n) (fun n:Int=>Value.int .i64 n) (fun _=>rfl) (fun _=>D.rep_int.2 rfl) hw
 unfold maxLen at h0
 exact o_ad o_6e (o_ab L0 (by omega)) (V.reps_cons.2 ⟨hr,V.reps_nil.2 rfl⟩) ht
end
end Go.Proofs.YtpobgdipcbglcaaGreatDoor.Am
