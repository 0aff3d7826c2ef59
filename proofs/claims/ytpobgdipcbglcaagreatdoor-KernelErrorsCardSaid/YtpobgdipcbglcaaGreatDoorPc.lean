/- Parts of the proof: CodeD, WordsM, Nat1, Nat2, AmUn. -/
import Derived.Test.YtpobgdipcbglcaaGreatDoorPb
set_option linter.unusedVariables false
set_option linter.unusedSimpArgs false
set_option maxRecDepth 100000
namespace Go.Proofs.YtpobgdipcbglcaaGreatDoor.Am
section
open Go.Proofs.YtpobgdipcbglcaaGreatDoor.Am
theorem mix:Tryz.prog.follows .mixedOrders=true:=by kernel_rfl
@[simp] def om_ (d s:Nat) (l:List Nat):O:=⟨some d,.mv (.t s),none,l⟩
@[simp] def oo_ (d:Nat) (a:A) (l:List Nat):O:=⟨some d,a,none,l⟩
@[simp] def og_ (d:Nat) (a:A) (s:Nat) (b:Bool) (l:List Nat):O:=⟨some d,a,some (s,b),l⟩
@[simp] def on_ (a:A) (l:List Nat):O:=⟨none,a,none,l⟩

abbrev o_6n:FuncId:=147
def o_6o:C:=(.seq (.reg false [oo_ 2 (.new 46 [.nilsl]) []]) (.seq (.reg false [om_ 4 0 [],oo_ 5 (.len (.t 4)) [0],om_ 3 5 [1,0,1]]) (.seq (.block 0 (.loop (.seq (.seq (.reg false [om_ 6 3 [],oo_ 7 (.bin .gtr (.t 6) (.d (.int .i64
 0))) [0],om_ 8 7 [1],og_ 9 (.mv (.t 0)) 8 true [2],og_ 10 (.mv (.t 3)) 8 true [2],og_ 11 (.bin .sub (.t 10) (.d (.int .i64 1))) 8 true [4,2],og_ 12 (.ix 1 (.t 9) (.t 11)) 8 true [3,5,2],og_ 13 (.load false 1 (.t 12)) 8
 true [6,2],og_ 14 (.bin .eql (.t 13) (.d (.int .u64 0))) 8 true [7,2],oo_ 15 (.pick (.t 8) (.t 14) (.d (.bool false))) [2,8]]) (.cond (.t 15) .skip (.exit 0))) (.block 1 (.reg false [om_ 16 3 [],oo_ 17 (.bin .sub (.t
 16) (.d (.int .i64 1))) [0],om_ 3 17 [1,0,1]]))))) (.seq (.reg false [om_ 18 0 [],om_ 19 3 [],oo_ 20 (.slice 1 (.t 18) none (some (.t 19)) none) [0,1],oo_ 21 (.build [.nilsl] [(0,1,(.t 20))]) [2],on_ (.store 1 (.t 2)
 (.t 21)) [3,0,1,2,3]]) .ret))))
theorem o_6p:fnOf Tryz.prog o_6n=some (o_6o,[.cell 2 true 1],22,false):=by kernel_rfl

abbrev o_6q:FuncId:=74
def o_6r:C:=(.seq (.reg false [oo_ 2 (.new 46 [.nilsl]) []]) (.seq (.reg false [om_ 3 0 [],oo_ 4 (.call 189 [(.t 3)]) [0],oo_ 5 (.call 147 [(.t 4)]) [1,1],on_ (.store 1 (.t 2) (.t 5)) [2,2,0,1,2]]) .ret))
theorem o_6s:fnOf Tryz.prog o_6q=some (o_6r,[.cell 2 true 1],6,false):=by kernel_rfl

abbrev o_6t:FuncId:=189
def o_6u:C:=(.seq (.reg false [oo_ 2 (.mv (.d .nilsl)) []]) (.seq (.seq (.reg false [om_ 3 0 [],oo_ 4 (.snl false (.t 3)) [0]]) (.cond (.t 4) (.seq (.reg false [oo_ 2 (.mv (.d .nilsl)) []]) .ret) .skip)) (.seq (.reg false [oo_ 5
 (.bsl0) [],om_ 6 0 [],oo_ 7 (.app 22 1 8 (.t 5) (.t 6)) [0,1],om_ 2 7 [2,2,0,1,2]]) .ret)))
theorem o_6v:fnOf Tryz.prog o_6t=some (o_6u,[.t 2],8,false):=by kernel_rfl

abbrev o_6w:FuncId:=294
def o_6x:C:=(.seq (.reg false [oo_ 3 (.box 46 (.t 1)) [],oo_ 4 (.new 48 [.nilsl,(.bool false)]) []]) (.seq (.reg true [oo_ 5 (.load true 1 (.t 3)) [],om_ 6 0 [],om_ 7 6 [1],og_ 8 (.load true 1 (.t 3)) 7 true [2],og_ 9 (.call 144
 [(.t 8)]) 7 true [3,2,2],og_ 10 (.un .not (.t 9)) 7 true [4,2],oo_ 11 (.pick (.t 7) (.t 10) (.d (.bool false))) [2,5],oo_ 12 (.build [.nilsl,(.bool false)] [(0,1,(.t 5)),(1,1,(.t 11))]) [0,6],on_ (.store 2 (.t 4) (.t
 12)) [7,4,0,1,2,3,4,5,6,7]]) .ret))
theorem o_6y:fnOf Tryz.prog o_6w=some (o_6x,[.cell 4 true 2],13,false):=by kernel_rfl

abbrev o_6z:FuncId:=172
def o_70:C:=(.seq (.seq (.reg false [om_ 4 0 [],oo_ 5 (.chk (.t 4)) [0],oo_ 6 (.fa 1 (.t 5)) [1],oo_ 7 (.load false 1 (.t 6)) [2],oo_ 8 (.bin .rem (.t 7) (.d (.int .i64 8))) [3],oo_ 9 (.bin .eql (.t 8) (.d (.int .i64 0))) [4]])
 (.cond (.t 9) (.reg false [om_ 10 0 [],om_ 11 0 [],oo_ 12 (.chk (.t 11)) [1],oo_ 13 (.fa 0 (.t 12)) [2],oo_ 14 (.load false 1 (.t 13)) [3],oo_ 15 (.bsl 5 1 1 [(.int .u8 0)] [(0,1,(.d (.int .u8 0)))]) [],oo_ 16 (.app 5 1
 1 (.t 14) (.t 15)) [4,5],oo_ 17 (.chk (.t 10)) [0,0,1,2,3,4,5,6],oo_ 18 (.fa 0 (.t 17)) [7,0,1,2,3,4,5,6],on_ (.store 1 (.t 18) (.t 16)) [8,6,6,0,1,2,3,4,5,6]]) .skip)) (.seq (.seq (.reg false [om_ 19 1 []]) (.cond (.t
 19) (.reg true [om_ 20 0 [],oo_ 21 (.chk (.t 20)) [0],oo_ 22 (.fa 0 (.t 21)) [1],oo_ 23 (.load false 1 (.t 22)) [2],om_ 24 0 [],oo_ 25 (.chk (.t 24)) [4],oo_ 26 (.fa 1 (.t 25)) [5],oo_ 27 (.load false 1 (.t 26)) [6],oo_
 28 (.bin .quo (.t 27) (.d (.int .i64 8))) [7],oo_ 29 (.ix 1 (.t 23) (.t 28)) [3,8],oo_ 30 (.load false 1 (.t 29)) [9],om_ 31 0 [],oo_ 32 (.chk (.t 31)) [11],oo_ 33 (.fa 1 (.t 32)) [12],oo_ 34 (.load false 1 (.t 33))
 [13],oo_ 35 (.bin .rem (.t 34) (.d (.int .i64 8))) [14],oo_ 36 (.bin .sub (.d (.int .i64 7)) (.t 35)) [15],oo_ 37 (.bin .shl (.d (.int .u8 1)) (.t 36)) [16],oo_ 38 (.bin .or (.t 30) (.t 37)) [10,17],oo_ 39 (.ix 1 (.t
 23) (.t 28)) [3,8,0,1,2,3,4,5,6,7,8,9,10,11,12,13,14,15,16,17,18],on_ (.store 1 (.t 39) (.t 38)) [19,18,0,1,2,3,4,5,6,7,8,9,10,11,12,13,14,15,16,17,18]]) .skip)) (.reg false [om_ 40 0 [],oo_ 41 (.chk (.t 40)) [0],oo_ 42
 (.fa 1 (.t 41)) [1],oo_ 43 (.load false 1 (.t 42)) [2],oo_ 44 (.bin .add (.t 43) (.d (.int .i64 1))) [3],oo_ 45 (.chk (.t 40)) [0,0,1,2,3,4],oo_ 46 (.fa 1 (.t 45)) [5,0,1,2,3,4],on_ (.store 1 (.t 46) (.t 44))
 [6,4,0,1,2,3,4]])))
theorem o_71:fnOf Tryz.prog o_6z=some (o_70,[],47,false):=by kernel_rfl

abbrev o_72:FuncId:=144
def o_73:C:=(.seq (.reg false [oo_ 1 (.box 46 (.t 0)) [],oo_ 2 (.mv (.d (.bool false))) []]) (.seq (.reg false [oo_ 3 (.fa 0 (.t 1)) [],oo_ 4 (.load false 1 (.t 3)) [0],oo_ 5 (.len (.t 4)) [1],oo_ 6 (.bin .eql (.t 5) (.d (.int .i64
 0))) [2],om_ 2 6 [3,0,1,2,3]]) .ret))
theorem o_74:fnOf Tryz.prog o_72=some (o_73,[.t 2],7,false):=by kernel_rfl

abbrev o_75:FuncId:=145
def o_76:C:=(.seq (.reg false [oo_ 2 (.box 46 (.t 0)) [],oo_ 3 (.box 46 (.t 1)) [],oo_ 4 (.new 46 [.nilsl]) []]) (.seq (.seq (.reg false [oo_ 10 (.fa 0 (.t 2)) [],oo_ 11 (.load false 1 (.t 10)) [0],oo_ 12 (.len (.t 11)) [1],oo_ 13
 (.fa 0 (.t 3)) [],oo_ 14 (.load false 1 (.t 13)) [3],oo_ 15 (.len (.t 14)) [4],oo_ 16 (.bin .lss (.t 12) (.t 15)) [2,5]]) (.cond (.t 16) (.reg false [oo_ 17 (.load true 1 (.t 3)) [],oo_ 18 (.load true 1 (.t 2)) [],on_
 (.store 1 (.t 2) (.t 17)) [0,0,1],on_ (.store 1 (.t 3) (.t 18)) [1,2,0,1,2]]) .skip)) (.seq (.reg false [oo_ 19 (.fa 0 (.t 2)) [],oo_ 20 (.load false 1 (.t 19)) [0],oo_ 21 (.len (.t 20)) [1],oo_ 22 (.bin .add (.t 21)
 (.d (.int .i64 1))) [2],oo_ 23 (.mksl 22 1 8 [(.int .u64 0)] (.t 22) (.t 22)) [3,3],om_ 5 23 [4,0,1,2,3,4]]) (.seq (.reg false [oo_ 6 (.mv (.d (.int .u64 0))) []]) (.seq (.seq (.reg false [oo_ 24 (.fa 0 (.t 2)) [],oo_
 25 (.load false 1 (.t 24)) [0],oo_ 26 (.len (.t 25)) [1],oo_ 27 (.mv (.d (.int .i64 0))) []]) (.block 0 (.loop (.seq (.reg false [oo_ 28 (.bin .lss (.t 27) (.t 26)) []]) (.seq (.cond (.t 28) .skip (.exit 0)) (.seq
 (.block 1 (.seq (.reg false [om_ 29 27 [],oo_ 30 (.ix 1 (.t 25) (.t 27)) [],oo_ 31 (.load false 1 (.t 30)) [1],om_ 7 29 [0,0,1,2],om_ 8 31 [2,3,0,1,2,3]]) (.seq (.reg false [oo_ 9 (.mv (.d (.int .u64 0))) []]) (.seq
 (.seq (.reg false [om_ 32 7 [],oo_ 33 (.fa 0 (.t 3)) [],oo_ 34 (.load false 1 (.t 33)) [1],oo_ 35 (.len (.t 34)) [2],oo_ 36 (.bin .lss (.t 32) (.t 35)) [0,3]]) (.cond (.t 36) (.reg false [oo_ 37 (.fa 0 (.t 3)) [],oo_ 38
 (.load false 1 (.t 37)) [0],om_ 39 7 [],oo_ 40 (.ix 1 (.t 38) (.t 39)) [1,2],oo_ 41 (.load false 1 (.t 40)) [3],om_ 9 41 [4,0,1,2,3,4]]) .skip)) (.reg false [om_ 43 5 [],om_ 44 7 [],om_ 45 8 [],om_ 46 9 [],om_ 47 6
 [],oo_ 48 (.call 254 [(.t 45),(.t 46),(.t 47)]) [2,3,4],om_ 42 48 [5],oo_ 49 (.ext (.t 42) 0) [6],oo_ 50 (.ext (.t 42) 1) [6],oo_ 51 (.ix 1 (.t 43) (.t 44)) [0,1,0,1,2,3,4,5,6,7],on_ (.store 1 (.t 51) (.t 49))
 [9,7,5,0,1,2,3,4,5,6,7],om_ 6 50 [8,10,0,1,2,3,4,5,6,7,8,9,10]]))))) (.reg false [oo_ 52 (.bin .add (.t 27) (.d (.int .i64 1))) [],om_ 27 52 [0]]))))))) (.seq (.reg false [om_ 53 5 [],oo_ 54 (.fa 0 (.t 2)) [],oo_ 55
 (.load false 1 (.t 54)) [1],oo_ 56 (.len (.t 55)) [2],om_ 57 6 [],oo_ 58 (.ix 1 (.t 53) (.t 56)) [0,3,0,1,2,3,4],on_ (.store 1 (.t 58) (.t 57)) [5,4,0,1,2,3,4]]) (.seq (.reg false [om_ 59 5 [],oo_ 60 (.call 147 [(.t
 59)]) [0],on_ (.store 1 (.t 4) (.t 60)) [1,1,0,1]]) .ret)))))))
theorem o_77:fnOf Tryz.prog o_75=some (o_76,[.cell 4 true 1],61,false):=by kernel_rfl

abbrev o_78:FuncId:=292
def o_79:C:=(.seq (.reg false [oo_ 2 (.box 46 (.t 0)) [],oo_ 3 (.box 46 (.t 1)) [],oo_ 4 (.mv (.d (.int .i64 0))) []]) (.seq (.seq (.reg false [oo_ 9 (.fa 0 (.t 2)) [],oo_ 10 (.load false 1 (.t 9)) [0],oo_ 11 (.len (.t 10)) [1],oo_
 12 (.fa 0 (.t 3)) [],oo_ 13 (.load false 1 (.t 12)) [3],oo_ 14 (.len (.t 13)) [4],oo_ 15 (.bin .sub (.t 11) (.t 14)) [2,5],om_ 5 15 [6,0,1,2,3,4,5,6]]) (.seq (.reg false [om_ 16 5 [],oo_ 17 (.bin .neq (.t 16) (.d (.int
 .i64 0))) [0]]) (.cond (.t 17) (.seq (.reg false [om_ 18 5 [],oo_ 19 (.mm false [(.t 18),(.d (.int .i64 1))]) [0],oo_ 20 (.mm true [(.d (.int .i64 (-1))),(.t 19)]) [1],om_ 4 20 [2,0,1,2]]) .ret) .skip))) (.seq (.seq
 (.reg false [oo_ 21 (.fa 0 (.t 2)) [],oo_ 22 (.load false 1 (.t 21)) [0],oo_ 23 (.len (.t 22)) [1],oo_ 24 (.bin .sub (.t 23) (.d (.int .i64 1))) [2],om_ 6 24 [3,0,1,2,3]]) (.block 0 (.loop (.seq (.seq (.reg false [om_
 25 6 [],oo_ 26 (.bin .geq (.t 25) (.d (.int .i64 0))) [0]]) (.cond (.t 26) .skip (.exit 0))) (.seq (.block 1 (.seq (.reg true [oo_ 29 (.fa 0 (.t 2)) [],oo_ 30 (.load false 1 (.t 29)) [0],om_ 31 6 [],oo_ 32 (.ix 1 (.t
 30) (.t 31)) [1,2],oo_ 33 (.load false 1 (.t 32)) [3],oo_ 34 (.fa 0 (.t 3)) [],oo_ 35 (.load false 1 (.t 34)) [5],om_ 36 6 [],oo_ 37 (.ix 1 (.t 35) (.t 36)) [6,7],oo_ 38 (.load false 1 (.t 37)) [8],om_ 7 33
 [4,0,1,2,3,4],om_ 8 38 [9,10,0,1,2,3,4,5,6,7,8,9,10]]) (.block 2 (.seq (.reg false [om_ 40 7 [],om_ 41 8 [],oo_ 42 (.bin .lss (.t 40) (.t 41)) [0,1],om_ 39 42 [2]]) (.cond (.t 39) (.seq (.reg false [oo_ 4 (.mv (.d (.int
 .i64 (-1)))) []]) .ret) (.seq (.reg false [om_ 44 7 [],om_ 45 8 [],oo_ 46 (.bin .gtr (.t 44) (.t 45)) [0,1],om_ 43 46 [2]]) (.cond (.t 43) (.seq (.reg false [oo_ 4 (.mv (.d (.int .i64 1))) []]) .ret) .skip))))))) (.reg
 false [om_ 27 6 [],oo_ 28 (.bin .sub (.t 27) (.d (.int .i64 1))) [0],om_ 6 28 [1,0,1]])))))) (.seq (.reg false [oo_ 4 (.mv (.d (.int .i64 0))) []]) .ret))))
theorem o_7a:fnOf Tryz.prog o_78=some (o_79,[.t 4],47,false):=by kernel_rfl

abbrev o_7b:FuncId:=50
def o_7c:C:=(.seq (.reg false [oo_ 1 (.box 50 (.t 0)) [],oo_ 2 (.new 46 [.nilsl]) []]) (.seq (.reg true [oo_ 3 (.fa 2 (.t 1)) [],oo_ 4 (.load true 1 (.t 3)) [0],oo_ 5 (.bsl 22 1 1 [(.int .u64 0)] [(0,1,(.d (.int .u64 1)))]) [],oo_
 6 (.call 74 [(.t 5)]) [2],oo_ 7 (.call 145 [(.t 4),(.t 6)]) [1,3,3],on_ (.store 1 (.t 2) (.t 7)) [4,4,0,1,2,3,4]]) .ret))
theorem o_7d:fnOf Tryz.prog o_7b=some (o_7c,[.cell 2 true 1],8,false):=by kernel_rfl

abbrev o_7e:FuncId:=127
def o_7f:C:=(.seq (.reg false [oo_ 1 (.box 126 (.t 0)) [],oo_ 2 (.mv (.d .nilifc)) []]) (.seq (.seq (.reg false [oo_ 3 (.fa 0 (.t 1)) [],oo_ 4 (.load false 1 (.t 3)) [0]]) (.block 0 (.seq (.reg false [oo_ 6 (.bin .eql (.t 4) (.d
 (.int .i64 1))) [],om_ 5 6 [0]]) (.cond (.t 5) (.seq (.reg false [oo_ 7 (.fa 1 (.t 1)) [],oo_ 8 (.load false 1 (.t 7)) [0],oo_ 9 (.ifc 376 (.t 8)) [1],om_ 2 9 [2,0,1,2]]) .ret) (.seq (.reg false [oo_ 11 (.bin .eql (.t
 4) (.d (.int .i64 2))) [],om_ 10 11 [0]]) (.cond (.t 10) (.seq (.reg false [oo_ 12 (.fa 1 (.t 1)) [],oo_ 13 (.load false 1 (.t 12)) [0],oo_ 14 (.ifc 377 (.t 13)) [1],om_ 2 14 [2,0,1,2]]) .ret) (.seq (.reg false [oo_ 16
 (.bin .eql (.t 4) (.d (.int .i64 3))) [],om_ 15 16 [0]]) (.cond (.t 15) (.seq (.reg false [oo_ 17 (.fa 1 (.t 1)) [],oo_ 18 (.load false 1 (.t 17)) [0],oo_ 19 (.ifc 378 (.t 18)) [1],om_ 2 19 [2,0,1,2]]) .ret)
 .skip)))))))) (.seq (.reg false [oo_ 2 (.mv (.d .nilifc)) []]) .ret)))
theorem o_7g:fnOf Tryz.prog o_7e=some (o_7f,[.t 2],20,false):=by kernel_rfl

abbrev o_7h:FuncId:=223
def o_7i:C:=(.seq (.reg false [oo_ 1 (.box 126 (.t 0)) [],oo_ 2 (.mv (.d (.int .i64 0))) []]) (.seq (.reg false [oo_ 4 (.load true 3 (.t 1)) [],oo_ 5 (.call 127 [(.t 4)]) [0],om_ 3 5 [1,1,0,1]]) (.seq (.seq (.reg false [om_ 6 3
 [],oo_ 7 (.inl false (.t 6)) [0],om_ 8 7 [1],og_ 9 (.mv (.t 3)) 8 false [2],og_ 10 (.inv (.t 9) "tallymark/chain.good" []) 8 false [3,2,2],og_ 11 (.un .not (.t 10)) 8 false [4,2],oo_ 12 (.pick (.t 8) (.d (.bool true))
 (.t 11)) [2,5],om_ 13 12 [6,4],og_ 14 (.fa 2 (.t 1)) 13 false [7],og_ 15 (.load false 1 (.t 14)) 13 false [8,7],og_ 16 (.bin .lss (.t 15) (.d (.int .i64 1))) 13 false [9,7],oo_ 17 (.pick (.t 13) (.d (.bool true)) (.t
 16)) [7,10],om_ 18 17 [11,7],og_ 19 (.fa 2 (.t 1)) 18 false [12],og_ 20 (.load false 1 (.t 19)) 18 false [13,12],og_ 21 (.bin .gtr (.t 20) (.d (.int .i64 10))) 18 false [14,12],oo_ 22 (.pick (.t 18) (.d (.bool true))
 (.t 21)) [12,15]]) (.cond (.t 22) (.seq (.reg false [oo_ 2 (.mv (.d (.int .i64 10))) []]) .ret) .skip)) (.seq (.seq (.reg true [oo_ 23 (.fa 0 (.t 1)) [],oo_ 24 (.load false 1 (.t 23)) [0],oo_ 25 (.bin .eql (.t 24) (.d
 (.int .i64 1))) [1],om_ 26 25 [2],og_ 27 (.fa 1 (.t 1)) 26 true [3],og_ 28 (.load false 1 (.t 27)) 26 true [4,3],og_ 29 (.bin .add (.t 28) (.d (.int .i64 1))) 26 true [5,3],og_ 30 (.conv .u64 (.t 29)) 26 true [6,3],og_
 31 (.call 159 [(.t 30)]) 26 true [7,3,3],og_ 32 (.fa 2 (.t 1)) 26 true [3],og_ 33 (.load false 1 (.t 32)) 26 true [9,3],og_ 34 (.bin .shl (.d (.int .i64 1)) (.t 33)) 26 true [10,3],og_ 35 (.bin .sub (.t 34) (.d (.int
 .i64 1))) 26 true [11,3],og_ 36 (.bin .mul (.t 31) (.t 35)) 26 true [8,12,3],og_ 37 (.bin .gtr (.t 36) (.d (.int .i64 8192))) 26 true [13,3],oo_ 38 (.pick (.t 26) (.t 37) (.d (.bool false))) [3,14]]) (.cond (.t 38)
 (.seq (.reg false [oo_ 2 (.mv (.d (.int .i64 10))) []]) .ret) .skip)) (.seq (.reg false [oo_ 2 (.mv (.d (.int .i64 0))) []]) .ret)))))
theorem o_7j:fnOf Tryz.prog o_7h=some (o_7i,[.t 2],39,false):=by kernel_rfl

abbrev o_7k:FuncId:=468
def o_7l:C:=(.seq (.reg false [oo_ 2 (.mv (.d (.bool false))) []]) (.seq (.reg false [om_ 3 0 [],oo_ 4 (.bin .geq (.t 3) (.d (.int .i64 0))) [0],om_ 5 4 [1],og_ 6 (.mv (.t 0)) 5 true [2],og_ 7 (.bin .leq (.t 6) (.d (.int .i64 8)))
 5 true [3,2],oo_ 8 (.pick (.t 5) (.t 7) (.d (.bool false))) [2,4],om_ 2 8 [5,2,0,1,2,3,4,5]]) .ret))
theorem o_7m:fnOf Tryz.prog o_7k=some (o_7l,[.t 2],9,false):=by kernel_rfl

abbrev o_7n:FuncId:=276
def o_7o:C:=(.seq (.reg false [oo_ 2 (.box 46 (.t 0)) [],oo_ 3 (.box 46 (.t 1)) [],oo_ 4 (.new 46 [.nilsl]) []]) (.seq (.reg false [oo_ 14 (.fa 0 (.t 2)) [],oo_ 15 (.load false 1 (.t 14)) [0],oo_ 16 (.len (.t 15)) [1],oo_ 17 (.fa 0
 (.t 3)) [],oo_ 18 (.load false 1 (.t 17)) [3],oo_ 19 (.len (.t 18)) [4],oo_ 20 (.bin .add (.t 16) (.t 19)) [2,5],oo_ 21 (.mksl 22 1 8 [(.int .u64 0)] (.t 20) (.t 20)) [6,6],om_ 5 21 [7,0,1,2,3,4,5,6,7]]) (.seq (.seq
 (.reg false [oo_ 22 (.fa 0 (.t 2)) [],oo_ 23 (.load false 1 (.t 22)) [0],oo_ 24 (.len (.t 23)) [1],oo_ 25 (.mv (.d (.int .i64 0))) []]) (.block 0 (.loop (.seq (.reg false [oo_ 26 (.bin .lss (.t 25) (.t 24)) []]) (.seq
 (.cond (.t 26) .skip (.exit 0)) (.seq (.block 1 (.seq (.reg false [om_ 27 25 [],oo_ 28 (.ix 1 (.t 23) (.t 25)) [],oo_ 29 (.load false 1 (.t 28)) [1],om_ 6 27 [0,0,1,2],om_ 7 29 [2,3,0,1,2,3]]) (.seq (.reg false [oo_ 8
 (.mv (.d (.int .u64 0))) []]) (.seq (.seq (.reg false [oo_ 30 (.fa 0 (.t 3)) [],oo_ 31 (.load false 1 (.t 30)) [0],oo_ 32 (.len (.t 31)) [1],oo_ 33 (.mv (.d (.int .i64 0))) []]) (.block 2 (.loop (.seq (.reg false [oo_
 34 (.bin .lss (.t 33) (.t 32)) []]) (.seq (.cond (.t 34) .skip (.exit 2)) (.seq (.block 3 (.seq (.reg false [om_ 35 33 [],oo_ 36 (.ix 1 (.t 31) (.t 33)) [],oo_ 37 (.load false 1 (.t 36)) [1],om_ 9 35 [0,0,1,2],om_ 10 37
 [2,3,0,1,2,3]]) (.seq (.reg false [om_ 39 7 [],om_ 40 10 [],oo_ 41 (.call 351 [(.t 39),(.t 40)]) [0,1],om_ 38 41 [2],oo_ 42 (.ext (.t 38) 0) [3],oo_ 43 (.ext (.t 38) 1) [3],om_ 11 42 [4,2,0,1,2,3,4],om_ 12 43
 [5,6,0,1,2,3,4,5,6]]) (.seq (.reg false [oo_ 13 (.mv (.d (.int .u64 0))) []]) (.seq (.reg false [om_ 45 12 [],om_ 46 5 [],om_ 47 6 [],om_ 48 9 [],oo_ 49 (.bin .add (.t 47) (.t 48)) [2,3],oo_ 50 (.ix 1 (.t 46) (.t 49))
 [1,4],oo_ 51 (.load false 1 (.t 50)) [5],oo_ 52 (.call 254 [(.t 45),(.t 51),(.d (.int .u64 0))]) [0,6],om_ 44 52 [7],oo_ 53 (.ext (.t 44) 0) [8],oo_ 54 (.ext (.t 44) 1) [8],om_ 12 53 [9,7,0,1,2,3,4,5,6,7,8,9],om_ 13 54
 [10,11,0,1,2,3,4,5,6,7,8,9,10,11]]) (.seq (.reg false [om_ 55 11 [],om_ 56 13 [],oo_ 57 (.bin .add (.t 55) (.t 56)) [0,1],om_ 11 57 [2,0,1,2]]) (.seq (.reg false [om_ 59 12 [],om_ 60 8 [],oo_ 61 (.call 254 [(.t 59),(.t
 60),(.d (.int .u64 0))]) [0,1],om_ 58 61 [2],oo_ 62 (.ext (.t 58) 0) [3],oo_ 63 (.ext (.t 58) 1) [3],om_ 12 62 [4,2,0,1,2,3,4],om_ 13 63 [5,6,0,1,2,3,4,5,6]]) (.reg false [om_ 64 5 [],om_ 65 6 [],om_ 66 9 [],oo_ 67
 (.bin .add (.t 65) (.t 66)) [1,2],om_ 68 12 [],om_ 69 11 [],om_ 70 13 [],oo_ 71 (.bin .add (.t 69) (.t 70)) [5,6],oo_ 72 (.ix 1 (.t 64) (.t 67)) [0,3,0,1,2,3,4],on_ (.store 1 (.t 72) (.t 68)) [8,4,0,1,2,3,4],om_ 8 71
 [7,9,0,1,2,3,4,5,6,7,8,9]])))))))) (.reg false [oo_ 73 (.bin .add (.t 33) (.d (.int .i64 1))) [],om_ 33 73 [0]]))))))) (.reg false [om_ 74 5 [],om_ 75 6 [],oo_ 76 (.fa 0 (.t 3)) [],oo_ 77 (.load false 1 (.t 76)) [2],oo_
 78 (.len (.t 77)) [3],oo_ 79 (.bin .add (.t 75) (.t 78)) [1,4],om_ 80 8 [],oo_ 81 (.ix 1 (.t 74) (.t 79)) [0,5,0,1,2,3,4,5,6],on_ (.store 1 (.t 81) (.t 80)) [7,6,0,1,2,3,4,5,6]]))))) (.reg false [oo_ 82 (.bin .add (.t
 25) (.d (.int .i64 1))) [],om_ 25 82 [0]]))))))) (.seq (.reg false [om_ 83 5 [],oo_ 84 (.call 147 [(.t 83)]) [0],on_ (.store 1 (.t 4) (.t 84)) [1,1,0,1]]) .ret))))
theorem o_7p:fnOf Tryz.prog o_7n=some (o_7o,[.cell 4 true 1],85,false):=by kernel_rfl

abbrev o_7q:FuncId:=462
def o_7r:C:=(.seq (.reg false [oo_ 2 (.mv (.d (.bool false))) []]) (.seq (.reg false [om_ 3 0 [],oo_ 4 (.call 468 [(.t 3)]) [0],om_ 2 4 [1,1,0,1]]) .ret))
theorem o_7s:fnOf Tryz.prog o_7q=some (o_7r,[.t 2],5,false):=by kernel_rfl

abbrev o_7t:FuncId:=64
def o_7u:C:=(.seq (.reg false [oo_ 6 (.mv (.d (.int .i64 0))) []]) (.seq (.seq (.reg false [om_ 8 2 [],oo_ 9 (.call 170 [(.t 8)]) [0],oo_ 10 (.un .not (.t 9)) [1],om_ 11 10 [2,1],og_ 12 (.mv (.t 1)) 11 false [3],og_ 13 (.mv (.t 2))
 11 false [3],og_ 14 (.call 171 [(.t 12),(.t 13)]) 11 false [4,5,3,3],og_ 15 (.un .not (.t 14)) 11 false [6,3],oo_ 16 (.pick (.t 11) (.d (.bool true)) (.t 15)) [3,7]]) (.cond (.t 16) (.seq (.reg false [oo_ 6 (.mv (.d
 (.int .i64 2))) []]) .ret) .skip)) (.seq (.seq (.reg false [om_ 17 2 [],oo_ 18 (.mv (.d (.int .i64 0))) []]) (.block 0 (.loop (.seq (.reg false [oo_ 19 (.bin .lss (.t 18) (.t 17)) []]) (.seq (.cond (.t 19) .skip (.exit
 0)) (.seq (.block 1 (.seq (.reg false [om_ 20 18 [],om_ 7 20 [0,0]]) (.reg false [om_ 21 0 [],om_ 22 1 [],om_ 23 2 [],oo_ 24 (.bin .sub (.t 23) (.d (.int .i64 1))) [2],om_ 25 7 [],oo_ 26 (.bin .sub (.t 24) (.t 25))
 [3,4],oo_ 27 (.bin .shr (.t 22) (.t 26)) [1,5],oo_ 28 (.bin .and (.t 27) (.d (.int .u64 1))) [6],oo_ 29 (.bin .eql (.t 28) (.d (.int .u64 1))) [7],oo_ 30 (.call 172 [(.t 21),(.t 29)]) [0,8]]))) (.reg false [oo_ 31 (.bin
 .add (.t 18) (.d (.int .i64 1))) [],om_ 18 31 [0]]))))))) (.seq (.reg false [oo_ 6 (.mv (.d (.int .i64 0))) []]) .ret))))
theorem o_7v:fnOf Tryz.prog o_7t=some (o_7u,[.t 6],32,false):=by kernel_rfl

abbrev o_7w:FuncId:=170
def o_7x:C:=(.seq (.reg false [oo_ 2 (.mv (.d (.bool false))) []]) (.seq (.reg false [om_ 3 0 [],oo_ 4 (.bin .geq (.t 3) (.d (.int .i64 0))) [0],om_ 5 4 [1],og_ 6 (.mv (.t 0)) 5 true [2],og_ 7 (.bin .leq (.t 6) (.d (.int .i64 64)))
 5 true [3,2],oo_ 8 (.pick (.t 5) (.t 7) (.d (.bool false))) [2,4],om_ 2 8 [5,2,0,1,2,3,4,5]]) .ret))
theorem o_7y:fnOf Tryz.prog o_7w=some (o_7x,[.t 2],9,false):=by kernel_rfl

abbrev o_7z:FuncId:=171
def o_80:C:=(.seq (.reg false [oo_ 4 (.mv (.d (.bool false))) []]) (.seq (.reg false [om_ 5 1 [],oo_ 6 (.bin .eql (.t 5) (.d (.int .i64 64))) [0],om_ 7 6 [1],og_ 8 (.mv (.t 0)) 7 false [2],og_ 9 (.mv (.t 1)) 7 false [2],og_ 10
 (.bin .shr (.t 8) (.t 9)) 7 false [3,4,2],og_ 11 (.bin .eql (.t 10) (.d (.int .u64 0))) 7 false [5,2],oo_ 12 (.pick (.t 7) (.d (.bool true)) (.t 11)) [2,6],om_ 4 12 [7,2,0,1,2,3,4,5,6,7]]) .ret))
theorem o_81:fnOf Tryz.prog o_7z=some (o_80,[.t 4],13,false):=by kernel_rfl

abbrev o_82:FuncId:=38
def o_83:C:=(.seq (.reg false [oo_ 1 (.box 29 (.t 0)) [],oo_ 2 (.new 126 [(.int .i64 0),(.int .i64 0),(.int .i64 0)]) []]) (.seq (.reg false [oo_ 3 (.fa 0 (.t 1)) [],oo_ 4 (.load false 1 (.t 3)) [0],oo_ 5 (.fa 1 (.t 1)) [],oo_ 6
 (.load false 1 (.t 5)) [2],oo_ 7 (.fa 2 (.t 1)) [],oo_ 8 (.load false 1 (.t 7)) [4],oo_ 9 (.build [(.int .i64 0),(.int .i64 0),(.int .i64 0)] [(0,1,(.t 4)),(1,1,(.t 6)),(2,1,(.t 8))]) [1,3,5],on_ (.store 3 (.t 2) (.t
 9)) [6,0,1,2,3,4,5,6]]) .ret))
theorem o_84:fnOf Tryz.prog o_82=some (o_83,[.cell 2 true 3],10,false):=by kernel_rfl

abbrev o_85:FuncId:=272
def o_86:C:=(.seq (.reg false [oo_ 2 (.box 48 (.t 0)) [],oo_ 3 (.box 48 (.t 1)) [],oo_ 4 (.new 48 [.nilsl,(.bool false)]) []]) (.seq (.reg true [oo_ 5 (.fa 1 (.t 2)) [],oo_ 6 (.load false 1 (.t 5)) [0],oo_ 7 (.fa 1 (.t 3)) [],oo_ 8
 (.load false 1 (.t 7)) [2],oo_ 9 (.beq true (.t 6) (.t 8)) [1,3],oo_ 10 (.fa 0 (.t 2)) [],oo_ 11 (.load true 1 (.t 10)) [5],oo_ 12 (.fa 0 (.t 3)) [],oo_ 13 (.load true 1 (.t 12)) [7],oo_ 14 (.call 276 [(.t 11),(.t 13)])
 [6,8],oo_ 15 (.call 294 [(.t 9),(.t 14)]) [4,9,9],on_ (.store 2 (.t 4) (.t 15)) [10,10,0,1,2,3,4,5,6,7,8,9,10]]) .ret))
theorem o_87:fnOf Tryz.prog o_85=some (o_86,[.cell 4 true 2],16,false):=by kernel_rfl

abbrev o_88:FuncId:=273
def o_89:C:=(.seq (.reg false [oo_ 1 (.box 50 (.t 0)) [],oo_ 2 (.new 48 [.nilsl,(.bool false)]) []]) (.seq (.reg false [oo_ 3 (.load true 3 (.t 1)) [],oo_ 4 (.call 50 [(.t 3)]) [0],oo_ 5 (.call 294 [(.d (.bool false)),(.t 4)])
 [1,1],on_ (.store 2 (.t 2) (.t 5)) [2,2,0,1,2]]) .ret))
theorem o_8a:fnOf Tryz.prog o_88=some (o_89,[.cell 2 true 2],6,false):=by kernel_rfl

abbrev o_8b:FuncId:=358
def o_8c:C:=(.seq (.reg false [oo_ 2 (.box 46 (.t 0)) [],oo_ 3 (.box 46 (.t 1)) [],oo_ 4 (.new 46 [.nilsl]) [],oo_ 5 (.new 46 [.nilsl]) [],oo_ 6 (.mv (.d (.int .i64 0))) []]) (.seq (.block 0 (.seq (.reg false [oo_ 10 (.load true 1
 (.t 3)) [],oo_ 11 (.call 144 [(.t 10)]) [0],om_ 9 11 [1,1]]) (.cond (.t 9) (.seq (.reg false [oo_ 12 (.build [.nilsl] []) [],oo_ 13 (.build [.nilsl] []) [],on_ (.store 1 (.t 4) (.t 12)) [0,0],on_ (.store 1 (.t 5) (.t
 13)) [1,2,0,1,2],oo_ 6 (.mv (.d (.int .i64 7))) [3,0,1,2,3]]) .ret) (.seq (.reg false [oo_ 15 (.load true 1 (.t 2)) [],oo_ 16 (.load true 1 (.t 3)) [],oo_ 17 (.call 292 [(.t 15),(.t 16)]) [0,1],oo_ 18 (.bin .lss (.t 17)
 (.d (.int .i64 0))) [2],om_ 14 18 [3,2]]) (.cond (.t 14) (.seq (.reg false [oo_ 19 (.build [.nilsl] []) [],oo_ 20 (.fa 0 (.t 2)) [],oo_ 21 (.load false 1 (.t 20)) [1],oo_ 22 (.call 74 [(.t 21)]) [2],on_ (.store 1 (.t 4)
 (.t 19)) [0,3,0],on_ (.store 1 (.t 5) (.t 22)) [3,4,0,1,2,3,4],oo_ 6 (.mv (.d (.int .i64 0))) [5,0,1,2,3,4,5]]) .ret) (.seq (.reg false [oo_ 24 (.fa 0 (.t 3)) [],oo_ 25 (.load false 1 (.t 24)) [0],oo_ 26 (.len (.t 25))
 [1],oo_ 27 (.bin .eql (.t 26) (.d (.int .i64 1))) [2],om_ 23 27 [3]]) (.cond (.t 23) (.seq (.reg true [oo_ 29 (.fa 0 (.t 2)) [],oo_ 30 (.load false 1 (.t 29)) [0],oo_ 31 (.fa 0 (.t 3)) [],oo_ 32 (.load false 1 (.t 31))
 [2],oo_ 33 (.ix 1 (.t 32) (.d (.int .i64 0))) [3],oo_ 34 (.load false 1 (.t 33)) [4],oo_ 35 (.call 146 [(.t 30),(.t 34)]) [1,5],om_ 28 35 [6],oo_ 36 (.ext (.t 28) 0) [7],oo_ 37 (.ext (.t 28) 1) [7],om_ 7 36
 [8,6,0,1,2,3,4,5,6,7,8],om_ 8 37 [9,10,0,1,2,3,4,5,6,7,8,9,10]]) (.seq (.reg false [om_ 38 7 [],oo_ 39 (.call 147 [(.t 38)]) [0],om_ 40 8 [],oo_ 41 (.bsl 22 1 1 [(.int .u64 0)] [(0,1,(.t 40))]) [2],oo_ 42 (.call 74 [(.t
 41)]) [3,1],on_ (.store 1 (.t 4) (.t 39)) [1,4,0,1],on_ (.store 1 (.t 5) (.t 42)) [4,5,0,1,2,3,4,5],oo_ 6 (.mv (.d (.int .i64 0))) [6,0,1,2,3,4,5,6]]) .ret)) .skip))))))) (.seq (.reg false [oo_ 43 (.load true 1 (.t 2))
 [],oo_ 44 (.load true 1 (.t 3)) [],oo_ 45 (.call 392 [(.t 43),(.t 44)]) [0,1],oo_ 46 (.ext (.t 45) 0) [2],oo_ 47 (.ext (.t 45) 1) [2],oo_ 48 (.ext (.t 45) 2) [2],on_ (.store 1 (.t 4) (.t 46)) [3,2,0,1,2,3,4,5],on_
 (.store 1 (.t 5) (.t 47)) [4,6,0,1,2,3,4,5,6],om_ 6 48 [5,7,0,1,2,3,4,5,6,7]]) .ret)))
theorem o_8d:fnOf Tryz.prog o_8b=some (o_8c,[.cell 4 true 1,.cell 5 true 1,.t 6],49,false):=by kernel_rfl

abbrev o_8e:FuncId:=351
def o_8f:C:=(.seq (.reg false [oo_ 4 (.mv (.d (.int .u64 0))) [],oo_ 5 (.mv (.d (.int .u64 0))) [0]]) (.seq (.reg false [om_ 14 0 [],oo_ 15 (.bin .and (.t 14) (.d (.int .u64 4294967295))) [0],om_ 6 15 [1,0,1]]) (.seq (.reg false
 [om_ 16 0 [],oo_ 17 (.bin .shr (.t 16) (.d (.int .u64 32))) [0],om_ 7 17 [1,0,1]]) (.seq (.reg false [om_ 18 1 [],oo_ 19 (.bin .and (.t 18) (.d (.int .u64 4294967295))) [0],om_ 8 19 [1,0,1]]) (.seq (.reg false [om_ 20 1
 [],oo_ 21 (.bin .shr (.t 20) (.d (.int .u64 32))) [0],om_ 9 21 [1,0,1]]) (.seq (.reg false [om_ 22 6 [],om_ 23 8 [],oo_ 24 (.bin .mul (.t 22) (.t 23)) [0,1],om_ 10 24 [2,0,1,2]]) (.seq (.reg false [om_ 25 7 [],om_ 26 8
 [],oo_ 27 (.bin .mul (.t 25) (.t 26)) [0,1],om_ 28 10 [],oo_ 29 (.bin .shr (.t 28) (.d (.int .u64 32))) [3],oo_ 30 (.bin .add (.t 27) (.t 29)) [2,4],om_ 11 30 [5,0,1,2,3,4,5]]) (.seq (.reg false [om_ 31 11 [],oo_ 32
 (.bin .and (.t 31) (.d (.int .u64 4294967295))) [0],om_ 12 32 [1,0,1]]) (.seq (.reg false [om_ 33 11 [],oo_ 34 (.bin .shr (.t 33) (.d (.int .u64 32))) [0],om_ 13 34 [1,0,1]]) (.seq (.reg false [om_ 35 12 [],om_ 36 6
 [],om_ 37 9 [],oo_ 38 (.bin .mul (.t 36) (.t 37)) [1,2],oo_ 39 (.bin .add (.t 35) (.t 38)) [0,3],om_ 12 39 [4,0,1,2,3,4]]) (.seq (.reg false [om_ 40 7 [],om_ 41 9 [],oo_ 42 (.bin .mul (.t 40) (.t 41)) [0,1],om_ 43 13
 [],oo_ 44 (.bin .add (.t 42) (.t 43)) [2,3],om_ 45 12 [],oo_ 46 (.bin .shr (.t 45) (.d (.int .u64 32))) [5],oo_ 47 (.bin .add (.t 44) (.t 46)) [4,6],om_ 4 47 [7,0,1,2,3,4,5,6,7]]) (.seq (.reg false [om_ 48 0 [],om_ 49 1
 [],oo_ 50 (.bin .mul (.t 48) (.t 49)) [0,1],om_ 5 50 [2,0,1,2]]) .ret))))))))))))
theorem o_8g:fnOf Tryz.prog o_8e=some (o_8f,[.t 4,.t 5],51,false):=by kernel_rfl

abbrev o_8h:FuncId:=146
def o_8i:C:=(.seq (.reg false [oo_ 4 (.mv (.d .nilsl)) [],oo_ 5 (.mv (.d (.int .u64 0))) [0]]) (.seq (.reg false [om_ 9 0 [],oo_ 10 (.len (.t 9)) [0],oo_ 11 (.mksl 22 1 8 [(.int .u64 0)] (.t 10) (.t 10)) [1,1],om_ 6 11 [2,0,1,2]])
 (.seq (.reg false [oo_ 7 (.mv (.d (.int .u64 0))) []]) (.seq (.seq (.reg false [om_ 12 0 [],oo_ 13 (.len (.t 12)) [0],oo_ 14 (.bin .sub (.t 13) (.d (.int .i64 1))) [1],om_ 8 14 [2,0,1,2]]) (.block 0 (.loop (.seq (.seq
 (.reg false [om_ 15 8 [],oo_ 16 (.bin .geq (.t 15) (.d (.int .i64 0))) [0]]) (.cond (.t 16) .skip (.exit 0))) (.seq (.block 1 (.reg false [om_ 20 6 [],om_ 21 8 [],om_ 22 7 [],om_ 23 0 [],om_ 24 8 [],oo_ 25 (.ix 1 (.t
 23) (.t 24)) [3,4],oo_ 26 (.load false 1 (.t 25)) [5],om_ 27 1 [],oo_ 28 (.call 255 [(.t 22),(.t 26),(.t 27)]) [2,6,7],om_ 19 28 [8],oo_ 29 (.ext (.t 19) 0) [9],oo_ 30 (.ext (.t 19) 1) [9],oo_ 31 (.ix 1 (.t 20) (.t 21))
 [0,1,0,1,2,3,4,5,6,7,8,9,10],on_ (.store 1 (.t 31) (.t 29)) [12,10,8,0,1,2,3,4,5,6,7,8,9,10],om_ 7 30 [11,13,0,1,2,3,4,5,6,7,8,9,10,11,12,13]])) (.reg false [om_ 17 8 [],oo_ 18 (.bin .sub (.t 17) (.d (.int .i64 1)))
 [0],om_ 8 18 [1,0,1]])))))) (.seq (.reg false [om_ 32 6 [],om_ 33 7 [],om_ 4 32 [0,0],om_ 5 33 [1,2,0,1,2]]) .ret)))))
theorem o_8j:fnOf Tryz.prog o_8h=some (o_8i,[.t 4,.t 5],34,false):=by kernel_rfl

abbrev o_8k:FuncId:=255
def o_8l:C:=(.seq (.reg false [oo_ 6 (.mv (.d (.int .u64 0))) [],oo_ 7 (.mv (.d (.int .u64 0))) [0]]) (.seq (.seq (.reg false [om_ 19 2 [],oo_ 20 (.bin .eql (.t 19) (.d (.int .u64 0))) [0]]) (.cond (.t 20) (.reg false [oo_ 21
 (.load false 1 .bad) [],on_ (.bad) [0]]) .skip)) (.seq (.seq (.reg false [om_ 22 2 [],om_ 23 0 [],oo_ 24 (.bin .leq (.t 22) (.t 23)) [0,1]]) (.cond (.t 24) (.reg false [oo_ 25 (.load false 1 .bad) [],on_ (.bad) [0]])
 .skip)) (.seq (.seq (.reg false [om_ 26 0 [],oo_ 27 (.bin .eql (.t 26) (.d (.int .u64 0))) [0]]) (.cond (.t 27) (.seq (.reg true [om_ 28 1 [],om_ 29 2 [],oo_ 30 (.bin .quo (.t 28) (.t 29)) [0,1],om_ 31 1 [],om_ 32 2
 [],oo_ 33 (.bin .rem (.t 31) (.t 32)) [3,4],om_ 6 30 [2,0,1,2],om_ 7 33 [5,6,0,1,2,3,4,5,6]]) .ret) .skip)) (.seq (.reg false [om_ 34 2 [],oo_ 35 (.call 345 [(.t 34)]) [0],oo_ 36 (.conv .u64 (.t 35)) [1],om_ 8 36
 [2,1,0,1,2]]) (.seq (.reg false [om_ 37 2 [],om_ 38 8 [],oo_ 39 (.bin .shl (.t 37) (.t 38)) [0,1],om_ 2 39 [2,0,1,2]]) (.seq (.reg false [om_ 40 2 [],oo_ 41 (.bin .shr (.t 40) (.d (.int .u64 32))) [0],om_ 9 41 [1,0,1]])
 (.seq (.reg false [om_ 42 2 [],oo_ 43 (.bin .and (.t 42) (.d (.int .u64 4294967295))) [0],om_ 10 43 [1,0,1]]) (.seq (.reg false [om_ 44 0 [],om_ 45 8 [],oo_ 46 (.bin .shl (.t 44) (.t 45)) [0,1],om_ 47 1 [],om_ 48 8
 [],oo_ 49 (.bin .sub (.d (.int .u64 64)) (.t 48)) [4],oo_ 50 (.bin .shr (.t 47) (.t 49)) [3,5],oo_ 51 (.bin .or (.t 46) (.t 50)) [2,6],om_ 11 51 [7,0,1,2,3,4,5,6,7]]) (.seq (.reg false [om_ 52 1 [],om_ 53 8 [],oo_ 54
 (.bin .shl (.t 52) (.t 53)) [0,1],om_ 12 54 [2,0,1,2]]) (.seq (.reg false [om_ 55 12 [],oo_ 56 (.bin .shr (.t 55) (.d (.int .u64 32))) [0],om_ 13 56 [1,0,1]]) (.seq (.reg false [om_ 57 12 [],oo_ 58 (.bin .and (.t 57)
 (.d (.int .u64 4294967295))) [0],om_ 14 58 [1,0,1]]) (.seq (.reg false [om_ 59 11 [],om_ 60 9 [],oo_ 61 (.bin .quo (.t 59) (.t 60)) [0,1],om_ 15 61 [2,0,1,2]]) (.seq (.reg false [om_ 62 11 [],om_ 63 15 [],om_ 64 9
 [],oo_ 65 (.bin .mul (.t 63) (.t 64)) [1,2],oo_ 66 (.bin .sub (.t 62) (.t 65)) [0,3],om_ 16 66 [4,0,1,2,3,4]]) (.seq (.block 0 (.loop (.seq (.seq (.reg false [om_ 67 15 [],oo_ 68 (.bin .geq (.t 67) (.d (.int .u64
 4294967296))) [0],om_ 69 68 [1],og_ 70 (.mv (.t 15)) 69 false [2],og_ 71 (.mv (.t 10)) 69 false [2],og_ 72 (.bin .mul (.t 70) (.t 71)) 69 false [3,4,2],og_ 73 (.mv (.t 16)) 69 false [2],og_ 74 (.bin .mul (.d (.int .u64
 4294967296)) (.t 73)) 69 false [6,2],og_ 75 (.mv (.t 13)) 69 false [2],og_ 76 (.bin .add (.t 74) (.t 75)) 69 false [7,8,2],og_ 77 (.bin .gtr (.t 72) (.t 76)) 69 false [5,9,2],oo_ 78 (.pick (.t 69) (.d (.bool true)) (.t
 77)) [2,10]]) (.cond (.t 78) .skip (.exit 0))) (.block 1 (.seq (.reg false [om_ 79 15 [],oo_ 80 (.bin .sub (.t 79) (.d (.int .u64 1))) [0],om_ 15 80 [1,0,1]]) (.seq (.reg false [om_ 81 16 [],om_ 82 9 [],oo_ 83 (.bin
 .add (.t 81) (.t 82)) [0,1],om_ 16 83 [2,0,1,2]]) (.seq (.reg false [om_ 84 16 [],oo_ 85 (.bin .geq (.t 84) (.d (.int .u64 4294967296))) [0]]) (.cond (.t 85) (.exit 0) .skip)))))))) (.seq (.reg false [om_ 86 11 [],oo_
 87 (.bin .mul (.t 86) (.d (.int .u64 4294967296))) [0],om_ 88 13 [],oo_ 89 (.bin .add (.t 87) (.t 88)) [1,2],om_ 90 15 [],om_ 91 2 [],oo_ 92 (.bin .mul (.t 90) (.t 91)) [4,5],oo_ 93 (.bin .sub (.t 89) (.t 92)) [3,6],om_
 17 93 [7,0,1,2,3,4,5,6,7]]) (.seq (.reg false [om_ 94 17 [],om_ 95 9 [],oo_ 96 (.bin .quo (.t 94) (.t 95)) [0,1],om_ 18 96 [2,0,1,2]]) (.seq (.reg false [om_ 97 17 [],om_ 98 18 [],om_ 99 9 [],oo_ 100 (.bin .mul (.t 98)
 (.t 99)) [1,2],oo_ 101 (.bin .sub (.t 97) (.t 100)) [0,3],om_ 16 101 [4,0,1,2,3,4]]) (.seq (.block 2 (.loop (.seq (.seq (.reg false [om_ 102 18 [],oo_ 103 (.bin .geq (.t 102) (.d (.int .u64 4294967296))) [0],om_ 104 103
 [1],og_ 105 (.mv (.t 18)) 104 false [2],og_ 106 (.mv (.t 10)) 104 false [2],og_ 107 (.bin .mul (.t 105) (.t 106)) 104 false [3,4,2],og_ 108 (.mv (.t 16)) 104 false [2],og_ 109 (.bin .mul (.d (.int .u64 4294967296)) (.t
 108)) 104 false [6,2],og_ 110 (.mv (.t 14)) 104 false [2],og_ 111 (.bin .add (.t 109) (.t 110)) 104 false [7,8,2],og_ 112 (.bin .gtr (.t 107) (.t 111)) 104 false [5,9,2],oo_ 113 (.pick (.t 104) (.d (.bool true)) (.t
 112)) [2,10]]) (.cond (.t 113) .skip (.exit 2))) (.block 3 (.seq (.reg false [om_ 114 18 [],oo_ 115 (.bin .sub (.t 114) (.d (.int .u64 1))) [0],om_ 18 115 [1,0,1]]) (.seq (.reg false [om_ 116 16 [],om_ 117 9 [],oo_ 118
 (.bin .add (.t 116) (.t 117)) [0,1],om_ 16 118 [2,0,1,2]]) (.seq (.reg false [om_ 119 16 [],oo_ 120 (.bin .geq (.t 119) (.d (.int .u64 4294967296))) [0]]) (.cond (.t 120) (.exit 2) .skip)))))))) (.seq (.reg false [om_
 121 15 [],oo_ 122 (.bin .mul (.t 121) (.d (.int .u64 4294967296))) [0],om_ 123 18 [],oo_ 124 (.bin .add (.t 122) (.t 123)) [1,2],om_ 125 17 [],oo_ 126 (.bin .mul (.t 125) (.d (.int .u64 4294967296))) [4],om_ 127 14
 [],oo_ 128 (.bin .add (.t 126) (.t 127)) [5,6],om_ 129 18 [],om_ 130 2 [],oo_ 131 (.bin .mul (.t 129) (.t 130)) [8,9],oo_ 132 (.bin .sub (.t 128) (.t 131)) [7,10],om_ 133 8 [],oo_ 134 (.bin .shr (.t 132) (.t 133))
 [11,12],om_ 6 124 [3,0,1,2,3],om_ 7 134 [13,14,0,1,2,3,4,5,6,7,8,9,10,11,12,13,14]]) .ret))))))))))))))))))))
theorem o_8m:fnOf Tryz.prog o_8k=some (o_8l,[.t 6,.t 7],135,false):=by kernel_rfl

abbrev o_8n:FuncId:=121
def o_8o:C:=(.seq (.reg false [oo_ 1 (.box 29 (.t 0)) [],oo_ 2 (.mv (.d (.int .i64 0))) []]) (.seq (.seq (.reg false [oo_ 3 (.fa 0 (.t 1)) [],oo_ 4 (.load false 1 (.t 3)) [0],oo_ 5 (.bin .eql (.t 4) (.d (.int .i64 4))) [1]]) (.cond
 (.t 5) (.seq (.reg false [oo_ 6 (.load true 3 (.t 1)) [],oo_ 7 (.call 34 [(.t 6)]) [0],oo_ 8 (.call 222 [(.t 7)]) [1,1],om_ 2 8 [2,2,0,1,2]]) .ret) .skip)) (.seq (.reg false [oo_ 9 (.load true 3 (.t 1)) [],oo_ 10 (.call
 38 [(.t 9)]) [0],oo_ 11 (.call 223 [(.t 10)]) [1,1],om_ 2 11 [2,2,0,1,2]]) .ret)))
theorem o_8p:fnOf Tryz.prog o_8n=some (o_8o,[.t 2],12,false):=by kernel_rfl

abbrev o_8q:FuncId:=208
def o_8r:C:=(.seq (.reg false [oo_ 2 (.mv (.d (.int .i64 0))) []]) (.seq (.seq (.reg false [om_ 3 0 [],oo_ 4 (.bin .geq (.t 3) (.d (.int .u64 4294967296))) [0]]) (.cond (.t 4) (.seq (.reg false [om_ 5 0 [],oo_ 6 (.bin .shr (.t 5)
 (.d (.int .u64 32))) [0],om_ 0 6 [1,0,1]]) (.reg false [oo_ 2 (.mv (.d (.int .i64 32))) []])) .skip)) (.seq (.seq (.reg false [om_ 7 0 [],oo_ 8 (.bin .geq (.t 7) (.d (.int .u64 65536))) [0]]) (.cond (.t 8) (.seq (.reg
 false [om_ 9 0 [],oo_ 10 (.bin .shr (.t 9) (.d (.int .u64 16))) [0],om_ 0 10 [1,0,1]]) (.reg false [om_ 11 2 [],oo_ 12 (.bin .add (.t 11) (.d (.int .i64 16))) [0],om_ 2 12 [1,0,1]])) .skip)) (.seq (.seq (.reg false [om_
 13 0 [],oo_ 14 (.bin .geq (.t 13) (.d (.int .u64 256))) [0]]) (.cond (.t 14) (.seq (.reg false [om_ 15 0 [],oo_ 16 (.bin .shr (.t 15) (.d (.int .u64 8))) [0],om_ 0 16 [1,0,1]]) (.reg false [om_ 17 2 [],oo_ 18 (.bin .add
 (.t 17) (.d (.int .i64 8))) [0],om_ 2 18 [1,0,1]])) .skip)) (.seq (.reg false [om_ 19 2 [],om_ 20 0 [],oo_ 21 (.conv .u8 (.t 20)) [1],⟨some 22,.gstr (.d (.str
 ⟨#[0,1,2,2,3,3,3,3,4,4,4,4,4,4,4,4,5,5,5,5,5,5,5,5,5,5,5,5,5,5,5,5,6,6,6,6,6,6,6,6,6,6,6,6,6,6,6,6,6,6,6,6,6,6,6,6,6,6,6,6,6,6,6,6,7,7,7,7,7,7,7,7,7,7,7,7,7,7,7,7,7,7,7,7,7,7,7,7,7,7,7,7,7,7,7,7,7,7,7,7,7,7,7,7,7,7,7,7,7,7,7,7,7,7,7,7,7,7,7,7,7,7,7,7,7,7,7,7,8,8,8,8,8,8,8,8,8,8,8,8,8,8,8,8,8,8,8,8,8,8,8,8,8,8,8,8,8,8,8,8,8,8,8,8,8,8,8,8,8,8,8,8,8,8,8,8,8,8,8,8,8,8,8,8,8,8,8,8,8,8,8,8,8,8,8,8,8,8,8,8,8,8,8,8,8,8,8,8,8,8,8,8,8,8,8,8,8,8,8,8,8,8,8,8,8,8,8,8,8,8,8,8,8,8,8,8,8,8,8,8,8,8,8,8,8,8,8,8,8,8,8,8,8,8,8,8]⟩)) (.t 21),none,[2]⟩,oo_ 23 (.conv .i64 (.t 22)) [3],oo_ 24 (.bin .add (.t 19) (.t 23)) [0,4],om_ 2 24 [5,0,1,2,3,4,5]]) .ret)))))
theorem o_8s:fnOf Tryz.prog o_8q=some (o_8r,[.t 2],25,false):=by kernel_rfl

abbrev o_8t:FuncId:=225
def o_8u:C:=(.seq (.reg false [oo_ 1 (.box 126 (.t 0)) [],oo_ 2 (.mv (.d (.int .i64 0))) []]) (.seq (.seq (.reg false [oo_ 3 (.load true 3 (.t 1)) [],oo_ 4 (.call 223 [(.t 3)]) [0],oo_ 5 (.bin .neq (.t 4) (.d (.int .i64 0))) [1]])
 (.cond (.t 5) (.seq (.reg false [oo_ 2 (.mv (.d (.int .i64 0))) []]) .ret) .skip)) (.seq (.reg false [oo_ 6 (.fa 2 (.t 1)) [],oo_ 7 (.load false 1 (.t 6)) [0],oo_ 8 (.bin .shl (.d (.int .i64 1)) (.t 7)) [1],oo_ 9 (.bin
 .sub (.t 8) (.d (.int .i64 1))) [2],om_ 2 9 [3,0,1,2,3]]) .ret)))
theorem o_8v:fnOf Tryz.prog o_8t=some (o_8u,[.t 2],10,false):=by kernel_rfl

abbrev o_8w:FuncId:=374
def o_8x:C:=(.seq (.reg false [oo_ 2 (.mv (.d (.bool false))) []]) (.seq (.reg false [om_ 3 0 [],om_ 4 0 [],oo_ 5 (.bin .neq (.t 3) (.t 4)) [0,1],om_ 2 5 [2,0,1,2]]) .ret))
theorem o_8y:fnOf Tryz.prog o_8w=some (o_8x,[.t 2],6,false):=by kernel_rfl

abbrev o_8z:FuncId:=309
def o_90:C:=(.seq (.reg false [oo_ 1 (.box 48 (.t 0)) [],oo_ 2 (.new 46 [.nilsl]) []]) (.seq (.reg false [oo_ 3 (.fa 0 (.t 1)) [],oo_ 4 (.load true 1 (.t 3)) [0],on_ (.store 1 (.t 2) (.t 4)) [1,0,1]]) .ret))
theorem o_91:fnOf Tryz.prog o_8z=some (o_90,[.cell 2 true 1],5,false):=by kernel_rfl

abbrev o_92:FuncId:=122
def o_93:C:=(.seq (.reg false [oo_ 2 (.box 29 (.t 0)) [],oo_ 3 (.box 31 (.t 1)) [],oo_ 4 (.mv (.d (.bool false))) []]) (.seq (.seq (.reg false [oo_ 6 (.load true 3 (.t 2)) [],oo_ 7 (.call 121 [(.t 6)]) [0],oo_ 8 (.bin .neq (.t 7)
 (.d (.int .i64 0))) [1]]) (.cond (.t 8) (.seq (.reg false [oo_ 4 (.mv (.d (.bool false))) []]) .ret) .skip)) (.seq (.seq (.reg false [oo_ 9 (.fa 0 (.t 2)) [],oo_ 10 (.load false 1 (.t 9)) [0],oo_ 11 (.bin .eql (.t 10)
 (.d (.int .i64 4))) [1]]) (.cond (.t 11) (.seq (.reg true [oo_ 12 (.load true 3 (.t 2)) [],oo_ 13 (.call 34 [(.t 12)]) [0],oo_ 14 (.load true 3 (.t 3)) [],oo_ 15 (.call 36 [(.t 14)]) [2,1],oo_ 16 (.call 224 [(.t 13),(.t
 15)]) [1,3,3],om_ 4 16 [4,4,0,1,2,3,4]]) .ret) .skip)) (.seq (.reg false [oo_ 17 (.load true 3 (.t 2)) [],oo_ 18 (.call 38 [(.t 17)]) [0],oo_ 19 (.call 225 [(.t 18)]) [1,1],om_ 5 19 [2,2,0,1,2]]) (.seq (.reg false [oo_
 20 (.fa 1 (.t 3)) [],oo_ 21 (.load false 1 (.t 20)) [0],oo_ 22 (.bin .eql (.t 21) (.d (.int .i64 0))) [1],om_ 23 22 [2],og_ 24 (.fa 0 (.t 3)) 23 true [3],og_ 25 (.load false 1 (.t 24)) 23 true [4,3],og_ 26 (.bin .geq
 (.t 25) (.d (.int .i64 0))) 23 true [5,3],oo_ 27 (.pick (.t 23) (.t 26) (.d (.bool false))) [3,6],om_ 28 27 [7,3],og_ 29 (.fa 0 (.t 3)) 28 true [8],og_ 30 (.load false 1 (.t 29)) 28 true [9,8],og_ 31 (.mv (.t 5)) 28
 true [8],og_ 32 (.bin .leq (.t 30) (.t 31)) 28 true [10,11,8],oo_ 33 (.pick (.t 28) (.t 32) (.d (.bool false))) [8,12],om_ 34 33 [13,8],og_ 35 (.fa 2 (.t 3)) 34 true [14],og_ 36 (.load false 1 (.t 35)) 34 true
 [15,14],og_ 37 (.un .not (.t 36)) 34 true [16,14],og_ 38 (.mv (.t 37)) 34 true [17,14,14],og_ 39 (.fa 0 (.t 3)) 38 false [18],og_ 40 (.load false 1 (.t 39)) 38 false [19,18],og_ 41 (.mv (.t 5)) 38 false [18],og_ 42
 (.bin .eql (.t 40) (.t 41)) 38 false [20,21,18],og_ 43 (.pick (.t 38) (.d (.bool true)) (.t 42)) 34 true [18,22,14],oo_ 44 (.pick (.t 34) (.t 43) (.d (.bool false))) [14,23],om_ 4 44
 [24,18,0,1,2,3,4,5,6,7,8,9,10,11,12,13,14,15,16,17,18,19,20,21,22,23,24]]) .ret)))))
theorem o_94:fnOf Tryz.prog o_92=some (o_93,[.t 4],45,false):=by kernel_rfl

abbrev o_95:FuncId:=205
def o_96:C:=(.seq (.reg false [oo_ 2 (.new 48 [.nilsl,(.bool false)]) []]) (.seq (.seq (.reg false [om_ 3 0 [],oo_ 4 (.bin .lss (.t 3) (.d (.int .i64 0))) [0]]) (.cond (.t 4) (.seq (.reg false [om_ 5 0 [],oo_ 6 (.conv .u64 (.t 5))
 [0],oo_ 7 (.un .neg (.t 6)) [1],oo_ 8 (.bsl 22 1 1 [(.int .u64 0)] [(0,1,(.t 7))]) [2],oo_ 9 (.call 74 [(.t 8)]) [3],oo_ 10 (.call 294 [(.d (.bool true)),(.t 9)]) [4,4],on_ (.store 2 (.t 2) (.t 10)) [5,5,0,1,2,3,4,5]])
 .ret) .skip)) (.seq (.reg false [om_ 11 0 [],oo_ 12 (.conv .u64 (.t 11)) [0],oo_ 13 (.bsl 22 1 1 [(.int .u64 0)] [(0,1,(.t 12))]) [1],oo_ 14 (.call 74 [(.t 13)]) [2],oo_ 15 (.call 294 [(.d (.bool false)),(.t 14)])
 [3,3],on_ (.store 2 (.t 2) (.t 15)) [4,4,0,1,2,3,4]]) .ret)))
theorem o_97:fnOf Tryz.prog o_95=some (o_96,[.cell 2 true 2],16,false):=by kernel_rfl

abbrev o_98:FuncId:=90
def o_99:C:=(.seq (.reg false [oo_ 2 (.new 50 [.nilsl,(.bool false),.nilsl]) []]) (.seq (.reg false [om_ 3 0 [],oo_ 4 (.call 205 [(.t 3)]) [0],oo_ 5 (.build [.nilsl,(.bool false),.nilsl] [(0,2,(.t 4))]) [1],on_ (.store 3 (.t 2) (.t
 5)) [2,1,0,1,2]]) .ret))
theorem o_9a:fnOf Tryz.prog o_98=some (o_99,[.cell 2 true 3],6,false):=by kernel_rfl

abbrev o_9b:FuncId:=156
def o_9c:C:=(.seq (.reg false [oo_ 2 (.box 50 (.t 0)) [],oo_ 3 (.box 50 (.t 1)) [],oo_ 4 (.mv (.d (.int .i64 0))) []]) (.seq (.reg true [oo_ 5 (.fa 0 (.t 2)) [],oo_ 6 (.load true 2 (.t 5)) [0],oo_ 7 (.load true 3 (.t 3)) [],oo_ 8
 (.call 273 [(.t 7)]) [2],oo_ 9 (.call 272 [(.t 6),(.t 8)]) [1,3,3],oo_ 10 (.fa 0 (.t 3)) [],oo_ 11 (.load true 2 (.t 10)) [5],oo_ 12 (.load true 3 (.t 2)) [],oo_ 13 (.call 273 [(.t 12)]) [7,4],oo_ 14 (.call 272 [(.t
 11),(.t 13)]) [6,8,8],oo_ 15 (.call 271 [(.t 9),(.t 14)]) [4,9,9],om_ 4 15 [10,10,0,1,2,3,4,5,6,7,8,9,10]]) .ret))
theorem o_9d:fnOf Tryz.prog o_9b=some (o_9c,[.t 4],16,false):=by kernel_rfl

abbrev o_9e:FuncId:=271
def o_9f:C:=(.seq (.reg false [oo_ 2 (.box 48 (.t 0)) [],oo_ 3 (.box 48 (.t 1)) [],oo_ 4 (.mv (.d (.int .i64 0))) []]) (.seq (.block 0 (.seq (.reg false [oo_ 6 (.fa 1 (.t 2)) [],oo_ 7 (.load false 1 (.t 6)) [0],om_ 8 7 [1],og_ 9
 (.fa 1 (.t 3)) 8 true [2],og_ 10 (.load false 1 (.t 9)) 8 true [3,2],oo_ 11 (.pick (.t 8) (.t 10) (.d (.bool false))) [2,4],om_ 5 11 [5,2]]) (.cond (.t 5) (.seq (.reg false [oo_ 12 (.fa 0 (.t 3)) [],oo_ 13 (.load true 1
 (.t 12)) [0],oo_ 14 (.fa 0 (.t 2)) [],oo_ 15 (.load true 1 (.t 14)) [2],oo_ 16 (.call 292 [(.t 13),(.t 15)]) [1,3],om_ 4 16 [4,4,0,1,2,3,4]]) .ret) (.seq (.reg false [oo_ 18 (.fa 1 (.t 2)) [],oo_ 19 (.load false 1 (.t
 18)) [0],om_ 17 19 [1]]) (.cond (.t 17) (.seq (.reg false [oo_ 4 (.mv (.d (.int .i64 (-1)))) []]) .ret) (.seq (.reg false [oo_ 21 (.fa 1 (.t 3)) [],oo_ 22 (.load false 1 (.t 21)) [0],om_ 20 22 [1]]) (.cond (.t 20) (.seq
 (.reg false [oo_ 4 (.mv (.d (.int .i64 1))) []]) .ret) .skip))))))) (.seq (.reg false [oo_ 23 (.fa 0 (.t 2)) [],oo_ 24 (.load true 1 (.t 23)) [0],oo_ 25 (.fa 0 (.t 3)) [],oo_ 26 (.load true 1 (.t 25)) [2],oo_ 27 (.call
 292 [(.t 24),(.t 26)]) [1,3],om_ 4 27 [4,4,0,1,2,3,4]]) .ret)))
theorem o_9g:fnOf Tryz.prog o_9e=some (o_9f,[.t 4],28,false):=by kernel_rfl

abbrev o_9h:FuncId:=98
def o_9i:C:=(.seq (.reg false [oo_ 4 (.mv (.d (.int .i64 0))) []]) (.seq (.seq (.reg false [om_ 6 1 [],oo_ 7 (.bin .eql (.t 6) (.d (.int .u64 0))) [0]]) (.cond (.t 7) (.seq (.reg false [oo_ 4 (.mv (.d (.int .i64 2))) []]) .ret)
 .skip)) (.seq (.reg false [om_ 8 1 [],oo_ 9 (.call 208 [(.t 8)]) [0],om_ 5 9 [1,1,0,1]]) (.seq (.reg false [om_ 10 0 [],om_ 11 5 [],oo_ 12 (.bin .sub (.t 11) (.d (.int .i64 1))) [1],oo_ 13 (.call 64 [(.t 10),(.d (.int
 .u64 0)),(.t 12)]) [0,2]]) (.seq (.reg false [om_ 14 0 [],om_ 15 1 [],om_ 16 5 [],oo_ 17 (.call 64 [(.t 14),(.t 15),(.t 16)]) [0,1,2],om_ 4 17 [3,3,0,1,2,3]]) .ret)))))
theorem o_9j:fnOf Tryz.prog o_9h=some (o_9i,[.t 4],18,false):=by kernel_rfl

abbrev o_9k:FuncId:=318
def o_9l:C:=(.seq (.reg false [oo_ 4 (.mv (.d (.int .i64 0))) []]) (.seq (.reg false [om_ 7 0 [],oo_ 8 (.call 374 [(.t 7)]) [0],om_ 5 8 [1,1,0,1]]) (.seq (.reg false [om_ 9 1 [],oo_ 10 (.call 374 [(.t 9)]) [0],om_ 6 10 [1,1,0,1]])
 (.seq (.seq (.reg false [om_ 11 5 []]) (.cond (.t 11) (.seq (.seq (.reg false [om_ 12 6 []]) (.cond (.t 12) (.seq (.reg false [oo_ 4 (.mv (.d (.int .i64 0))) []]) .ret) .skip)) (.seq (.reg false [oo_ 4 (.mv (.d (.int
 .i64 (-1)))) []]) .ret)) .skip)) (.seq (.seq (.reg false [om_ 13 6 []]) (.cond (.t 13) (.seq (.reg false [oo_ 4 (.mv (.d (.int .i64 1))) []]) .ret) .skip)) (.seq (.seq (.reg false [om_ 14 0 [],om_ 15 1 [],oo_ 16 (.bin
 .lss (.t 14) (.t 15)) [0,1]]) (.cond (.t 16) (.seq (.reg false [oo_ 4 (.mv (.d (.int .i64 (-1)))) []]) .ret) .skip)) (.seq (.seq (.reg false [om_ 17 0 [],om_ 18 1 [],oo_ 19 (.bin .gtr (.t 17) (.t 18)) [0,1]]) (.cond (.t
 19) (.seq (.reg false [oo_ 4 (.mv (.d (.int .i64 1))) []]) .ret) .skip)) (.seq (.reg false [oo_ 4 (.mv (.d (.int .i64 0))) []]) .ret))))))))
theorem o_9m:fnOf Tryz.prog o_9k=some (o_9l,[.t 4],20,false):=by kernel_rfl

abbrev o_9n:FuncId:=184
def o_9o:C:=(.seq (.reg false [oo_ 2 (.box 46 (.t 0)) [],oo_ 3 (.box 46 (.t 1)) [],oo_ 4 (.new 46 [.nilsl]) [],oo_ 5 (.mv (.d (.int .i64 0))) []]) (.seq (.seq (.reg false [oo_ 11 (.load true 1 (.t 2)) [],oo_ 12 (.load true 1 (.t
 3)) [],oo_ 13 (.call 292 [(.t 11),(.t 12)]) [0,1],oo_ 14 (.bin .lss (.t 13) (.d (.int .i64 0))) [2]]) (.cond (.t 14) (.seq (.reg false [oo_ 15 (.build [.nilsl] []) [],on_ (.store 1 (.t 4) (.t 15)) [0,0],oo_ 5 (.mv (.d
 (.int .i64 2))) [1,0,1]]) .ret) .skip)) (.seq (.reg false [oo_ 16 (.fa 0 (.t 2)) [],oo_ 17 (.load false 1 (.t 16)) [0],oo_ 18 (.len (.t 17)) [1],oo_ 19 (.mksl 22 1 8 [(.int .u64 0)] (.t 18) (.t 18)) [2,2],om_ 6 19
 [3,0,1,2,3]]) (.seq (.reg false [oo_ 7 (.mv (.d (.int .u64 0))) []]) (.seq (.seq (.reg false [oo_ 20 (.fa 0 (.t 2)) [],oo_ 21 (.load false 1 (.t 20)) [0],oo_ 22 (.len (.t 21)) [1],oo_ 23 (.mv (.d (.int .i64 0))) []])
 (.block 0 (.loop (.seq (.reg false [oo_ 24 (.bin .lss (.t 23) (.t 22)) []]) (.seq (.cond (.t 24) .skip (.exit 0)) (.seq (.block 1 (.seq (.reg false [om_ 25 23 [],oo_ 26 (.ix 1 (.t 21) (.t 23)) [],oo_ 27 (.load false 1
 (.t 26)) [1],om_ 8 25 [0,0,1,2],om_ 9 27 [2,3,0,1,2,3]]) (.seq (.reg false [oo_ 10 (.mv (.d (.int .u64 0))) []]) (.seq (.seq (.reg false [om_ 28 8 [],oo_ 29 (.fa 0 (.t 3)) [],oo_ 30 (.load false 1 (.t 29)) [1],oo_ 31
 (.len (.t 30)) [2],oo_ 32 (.bin .lss (.t 28) (.t 31)) [0,3]]) (.cond (.t 32) (.reg false [oo_ 33 (.fa 0 (.t 3)) [],oo_ 34 (.load false 1 (.t 33)) [0],om_ 35 8 [],oo_ 36 (.ix 1 (.t 34) (.t 35)) [1,2],oo_ 37 (.load false
 1 (.t 36)) [3],om_ 10 37 [4,0,1,2,3,4]]) .skip)) (.reg false [om_ 39 6 [],om_ 40 8 [],om_ 41 9 [],om_ 42 10 [],om_ 43 7 [],oo_ 44 (.call 293 [(.t 41),(.t 42),(.t 43)]) [2,3,4],om_ 38 44 [5],oo_ 45 (.ext (.t 38) 0)
 [6],oo_ 46 (.ext (.t 38) 1) [6],oo_ 47 (.ix 1 (.t 39) (.t 40)) [0,1,0,1,2,3,4,5,6,7],on_ (.store 1 (.t 47) (.t 45)) [9,7,5,0,1,2,3,4,5,6,7],om_ 7 46 [8,10,0,1,2,3,4,5,6,7,8,9,10]]))))) (.reg false [oo_ 48 (.bin .add (.t
 23) (.d (.int .i64 1))) [],om_ 23 48 [0]]))))))) (.seq (.reg false [om_ 49 6 [],oo_ 50 (.call 147 [(.t 49)]) [0],on_ (.store 1 (.t 4) (.t 50)) [1,1,0,1],oo_ 5 (.mv (.d (.int .i64 0))) [2,0,1,2]]) .ret))))))
theorem o_9p:fnOf Tryz.prog o_9n=some (o_9o,[.cell 4 true 1,.t 5],51,false):=by kernel_rfl

abbrev o_9q:FuncId:=159
def o_9r:C:=(.seq (.reg false [oo_ 2 (.mv (.d (.int .i64 0))) []]) (.seq (.cond (.d (.bool false)) (.seq (.reg false [om_ 3 0 [],oo_ 4 (.conv .u32 (.t 3)) [0],oo_ 5 (.call 285 [(.t 4)]) [1],om_ 2 5 [2,2,0,1,2]]) .ret) .skip) (.seq
 (.reg false [om_ 6 0 [],oo_ 7 (.call 208 [(.t 6)]) [0],om_ 2 7 [1,1,0,1]]) .ret)))
theorem o_9s:fnOf Tryz.prog o_9q=some (o_9r,[.t 2],8,false):=by kernel_rfl

abbrev o_9t:FuncId:=274
def o_9u:C:=(.seq (.reg false [oo_ 2 (.box 48 (.t 0)) [],oo_ 3 (.box 46 (.t 1)) [],oo_ 4 (.new 50 [.nilsl,(.bool false),.nilsl]) []]) (.seq (.reg true [oo_ 14 (.load true 2 (.t 2)) [],oo_ 15 (.call 309 [(.t 14)]) [0],oo_ 16 (.load
 true 1 (.t 3)) [],oo_ 17 (.call 357 [(.t 15),(.t 16)]) [1,2,1],oo_ 5 (.new 46 [.nilsl]) [],on_ (.store 1 (.t 5) (.t 17)) [4,3,3,0,1,2,3,4]]) (.seq (.reg true [oo_ 19 (.load true 2 (.t 2)) [],oo_ 20 (.call 309 [(.t 19)])
 [0],oo_ 21 (.load true 1 (.t 5)) [],oo_ 22 (.call 358 [(.t 20),(.t 21)]) [1,2,1],om_ 18 22 [3],oo_ 23 (.ext (.t 18) 0) [4],oo_ 24 (.ext (.t 18) 1) [4],oo_ 25 (.ext (.t 18) 2) [4],oo_ 6 (.new 46 [.nilsl]) [],oo_ 7 (.new
 46 [.nilsl]) [],on_ (.store 1 (.t 6) (.t 23)) [8,5,3,0,1,2,3,4,5,8,9],on_ (.store 1 (.t 7) (.t 24)) [9,6,10,0,1,2,3,4,5,6,8,9,10],om_ 8 25 [7,11,0,1,2,3,4,5,6,7,8,9,10,11]]) (.seq (.reg false [oo_ 27 (.load true 1 (.t
 3)) [],oo_ 28 (.load true 1 (.t 5)) [],oo_ 29 (.call 358 [(.t 27),(.t 28)]) [0,1],om_ 26 29 [2],oo_ 30 (.ext (.t 26) 0) [3],oo_ 31 (.ext (.t 26) 1) [3],oo_ 32 (.ext (.t 26) 2) [3],oo_ 9 (.new 46 [.nilsl]) [],oo_ 10
 (.new 46 [.nilsl]) [],on_ (.store 1 (.t 9) (.t 30)) [7,4,2,0,1,2,3,4,7,8],on_ (.store 1 (.t 10) (.t 31)) [8,5,9,0,1,2,3,4,5,7,8,9],om_ 11 32 [6,10,0,1,2,3,4,5,6,7,8,9,10]]) (.seq (.reg true [oo_ 34 (.load true 1 (.t 9))
 [],oo_ 35 (.bsl 22 1 1 [(.int .u64 0)] [(0,1,(.d (.int .u64 1)))]) [],oo_ 36 (.call 74 [(.t 35)]) [1],oo_ 37 (.call 184 [(.t 34),(.t 36)]) [0,2,2],om_ 33 37 [3],oo_ 38 (.ext (.t 33) 0) [4],oo_ 39 (.ext (.t 33) 1)
 [4],oo_ 12 (.new 46 [.nilsl]) [],on_ (.store 1 (.t 12) (.t 38)) [7,5,3,0,1,2,3,4,5,7],om_ 13 39 [6,8,0,1,2,3,4,5,6,7,8]]) (.seq (.reg true [oo_ 40 (.load true 2 (.t 2)) [],oo_ 41 (.call 310 [(.t 40)]) [0],oo_ 42 (.load
 true 1 (.t 6)) [],oo_ 43 (.call 294 [(.t 41),(.t 42)]) [1,2,1],oo_ 44 (.load true 1 (.t 12)) [],oo_ 45 (.build [.nilsl,(.bool false),.nilsl] [(0,2,(.t 43)),(2,1,(.t 44))]) [3,4],on_ (.store 3 (.t 4) (.t 45))
 [5,3,0,1,2,3,4,5]]) .ret))))))
theorem o_9v:fnOf Tryz.prog o_9t=some (o_9u,[.cell 4 true 3],46,false):=by kernel_rfl

abbrev o_9w:FuncId:=357
def o_9x:C:=(.seq (.reg false [oo_ 2 (.box 46 (.t 0)) [],oo_ 3 (.box 46 (.t 1)) [],oo_ 4 (.new 46 [.nilsl]) []]) (.seq (.block 0 (.loop (.seq (.seq (.reg false [oo_ 8 (.load true 1 (.t 3)) [],oo_ 9 (.call 144 [(.t 8)]) [0],oo_ 10
 (.un .not (.t 9)) [1]]) (.cond (.t 10) .skip (.exit 0))) (.block 1 (.seq (.reg false [oo_ 12 (.load true 1 (.t 2)) [],oo_ 13 (.load true 1 (.t 3)) [],oo_ 14 (.call 358 [(.t 12),(.t 13)]) [0,1],om_ 11 14 [2],oo_ 15 (.ext
 (.t 11) 0) [3],oo_ 16 (.ext (.t 11) 1) [3],oo_ 17 (.ext (.t 11) 2) [3],oo_ 5 (.new 46 [.nilsl]) [],oo_ 6 (.new 46 [.nilsl]) [],on_ (.store 1 (.t 5) (.t 15)) [7,4,2,0,1,2,3,4,7,8],on_ (.store 1 (.t 6) (.t 16))
 [8,5,9,0,1,2,3,4,5,7,8,9],om_ 7 17 [6,10,0,1,2,3,4,5,6,7,8,9,10]]) (.reg true [oo_ 18 (.load true 1 (.t 3)) [],oo_ 19 (.load true 1 (.t 6)) [],on_ (.store 1 (.t 2) (.t 18)) [0,0],on_ (.store 1 (.t 3) (.t 19))
 [1,2,0,1,2]])))))) (.seq (.reg false [oo_ 20 (.fa 0 (.t 2)) [],oo_ 21 (.load false 1 (.t 20)) [0],oo_ 22 (.call 74 [(.t 21)]) [1],on_ (.store 1 (.t 4) (.t 22)) [2,2,0,1,2]]) .ret)))
theorem o_9y:fnOf Tryz.prog o_9w=some (o_9x,[.cell 4 true 1],23,false):=by kernel_rfl

abbrev o_9z:FuncId:=310
def o_a0:C:=(.seq (.reg false [oo_ 1 (.box 48 (.t 0)) [],oo_ 2 (.mv (.d (.bool false))) []]) (.seq (.reg false [oo_ 3 (.fa 1 (.t 1)) [],oo_ 4 (.load false 1 (.t 3)) [0],om_ 2 4 [1,0,1]]) .ret))
theorem o_a1:fnOf Tryz.prog o_9z=some (o_a0,[.t 2],5,false):=by kernel_rfl

abbrev o_a2:FuncId:=52
def o_a3:C:=(.seq (.reg false [oo_ 1 (.box 37 (.t 0)) [],oo_ 2 (.mv (.d (.bool false))) []]) (.seq (.seq (.reg false [oo_ 3 (.fa 0 (.t 1)) [],oo_ 4 (.load false 1 (.t 3)) [0]]) (.block 0 (.seq (.reg false [oo_ 6 (.bin .eql (.t 4)
 (.d (.int .i64 1))) [],om_ 5 6 [0]]) (.cond (.t 5) (.seq (.reg false [oo_ 7 (.fa 1 (.t 1)) [],oo_ 8 (.load true 3 (.t 7)) [0],oo_ 9 (.fa 4 (.t 1)) [],oo_ 10 (.load true 3 (.t 9)) [2],oo_ 11 (.call 122 [(.t 8),(.t 10)])
 [1,3],om_ 2 11 [4,4,0,1,2,3,4]]) .ret) (.seq (.reg false [oo_ 13 (.bin .eql (.t 4) (.d (.int .i64 2))) [],om_ 12 13 [0]]) (.cond (.t 12) (.seq (.reg false [oo_ 14 (.fa 7 (.t 1)) [],oo_ 15 (.load false 1 (.t 14)) [0],oo_
 16 (.pnl true (.t 15)) [1],om_ 2 16 [2,0,1,2]]) .ret) (.seq (.reg false [oo_ 18 (.bin .eql (.t 4) (.d (.int .i64 3))) [],om_ 17 18 [0]]) (.cond (.t 17) (.seq (.reg false [oo_ 19 (.fa 8 (.t 1)) [],oo_ 20 (.load false 1
 (.t 19)) [0],oo_ 21 (.pnl true (.t 20)) [1],om_ 2 21 [2,0,1,2]]) .ret) (.seq (.reg false [oo_ 23 (.bin .eql (.t 4) (.d (.int .i64 4))) [],om_ 22 23 [0]]) (.cond (.t 22) (.seq (.reg false [oo_ 24 (.fa 9 (.t 1)) [],oo_ 25
 (.load false 1 (.t 24)) [0],oo_ 26 (.pnl true (.t 25)) [1],om_ 2 26 [2,0,1,2]]) .ret) (.seq (.reg false [oo_ 28 (.bin .eql (.t 4) (.d (.int .i64 5))) [],om_ 27 28 [0]]) (.cond (.t 27) (.seq (.reg false [oo_ 29 (.fa 10
 (.t 1)) [],oo_ 30 (.load false 1 (.t 29)) [0],oo_ 31 (.pnl true (.t 30)) [1],om_ 2 31 [2,0,1,2]]) .ret) .skip)))))))))))) (.seq (.reg false [oo_ 2 (.mv (.d (.bool false))) []]) .ret)))
theorem o_a4:fnOf Tryz.prog o_a2=some (o_a3,[.t 2],32,false):=by kernel_rfl

abbrev o_a5:FuncId:=16
def o_a6:C:=(.seq (.reg false [oo_ 1 (.box 37 (.t 0)) [],oo_ 2 (.mv (.d (.int .i64 0))) []]) (.seq (.seq (.reg false [oo_ 3 (.load true 11 (.t 1)) [],oo_ 4 (.call 52 [(.t 3)]) [0],oo_ 5 (.un .not (.t 4)) [1]]) (.cond (.t 5) (.seq
 (.reg false [oo_ 2 (.mv (.d (.int .i64 1))) []]) .ret) .skip)) (.seq (.reg false [oo_ 2 (.mv (.d (.int .i64 0))) []]) .ret)))
theorem o_a7:fnOf Tryz.prog o_a5=some (o_a6,[.t 2],6,false):=by kernel_rfl

abbrev o_a8:FuncId:=217
def o_a9:C:=(.seq (.reg false [om_ 5 0 [],oo_ 6 (.len (.t 5)) [0],om_ 4 6 [1,0,1]]) (.reg false [om_ 7 0 [],om_ 8 4 [],om_ 9 4 [],oo_ 10 (.conv .u64 (.t 9)) [2],oo_ 11 (.call 159 [(.t 10)]) [3],om_ 12 1 [],oo_ 13 (.call 316 [(.t
 7),(.d (.int .i64 0)),(.t 8),(.t 11),(.t 12)]) [0,1,4,5,4]]))
theorem o_aa:fnOf Tryz.prog o_a8=some (o_a9,[],14,false):=by kernel_rfl

abbrev o_ab:FuncId:=316
def o_ac:C:=(.seq (.reg false [oo_ 10 (.mv (.d (.bool true))) []]) (.seq (.reg false [oo_ 11 (.mv (.d (.bool true))) []]) (.block 0 (.loop (.block 1 (.seq (.reg false [om_ 21 2 [],om_ 22 1 [],oo_ 23 (.bin .sub (.t 21) (.t 22))
 [0,1],om_ 12 23 [2,0,1,2]]) (.seq (.seq (.reg false [om_ 24 12 [],oo_ 25 (.bin .leq (.t 24) (.d (.int .i64 12))) [0]]) (.cond (.t 25) (.seq (.reg false [om_ 26 0 [],om_ 27 1 [],om_ 28 2 [],om_ 29 4 [],oo_ 30 (.call 366
 [(.t 26),(.t 27),(.t 28),(.t 29)]) [0,1,2,3]]) .ret) .skip)) (.seq (.seq (.reg false [om_ 31 3 [],oo_ 32 (.bin .eql (.t 31) (.d (.int .i64 0))) [0]]) (.cond (.t 32) (.seq (.reg false [om_ 33 0 [],om_ 34 1 [],om_ 35 2
 [],om_ 36 4 [],oo_ 37 (.call 367 [(.t 33),(.t 34),(.t 35),(.t 36)]) [0,1,2,3]]) .ret) .skip)) (.seq (.seq (.reg false [om_ 38 10 [],oo_ 39 (.un .not (.t 38)) [0]]) (.cond (.t 39) (.seq (.reg false [om_ 40 0 [],om_ 41 1
 [],om_ 42 2 [],om_ 43 4 [],oo_ 44 (.call 368 [(.t 40),(.t 41),(.t 42),(.t 43)]) [0,1,2,3]]) (.reg false [om_ 45 3 [],oo_ 46 (.bin .sub (.t 45) (.d (.int .i64 1))) [0],om_ 3 46 [1,0,1]])) .skip)) (.seq (.reg false [om_
 48 0 [],om_ 49 1 [],om_ 50 2 [],om_ 51 4 [],oo_ 52 (.call 369 [(.t 48),(.t 49),(.t 50),(.t 51)]) [0,1,2,3],om_ 47 52 [4],oo_ 53 (.ext (.t 47) 0) [5],oo_ 54 (.ext (.t 47) 1) [5],om_ 13 53 [6,4,0,1,2,3,4,5,6],om_ 14 54
 [7,8,0,1,2,3,4,5,6,7,8]]) (.seq (.seq (.reg false [om_ 55 14 [],oo_ 56 (.bin .eql (.t 55) (.d (.int .i64 2))) [0]]) (.cond (.t 56) (.seq (.reg false [om_ 57 0 [],om_ 58 1 [],om_ 59 2 [],om_ 60 4 [],oo_ 61 (.call 370
 [(.t 57),(.t 58),(.t 59),(.t 60)]) [0,1,2,3]]) (.seq (.reg false [om_ 62 2 [],oo_ 63 (.bin .sub (.t 62) (.d (.int .i64 1))) [0],om_ 64 13 [],om_ 65 1 [],oo_ 66 (.bin .sub (.t 64) (.t 65)) [2,3],oo_ 67 (.bin .sub (.t 63)
 (.t 66)) [1,4],om_ 13 67 [5,0,1,2,3,4,5]]) (.reg false [oo_ 14 (.mv (.d (.int .i64 1))) []]))) .skip)) (.seq (.seq (.reg false [om_ 68 10 [],om_ 69 68 [0],og_ 70 (.mv (.t 11)) 69 true [1],oo_ 71 (.pick (.t 69) (.t 70)
 (.d (.bool false))) [1,2],om_ 72 71 [3,1],og_ 73 (.mv (.t 14)) 72 true [4],og_ 74 (.bin .eql (.t 73) (.d (.int .i64 1))) 72 true [5,4],oo_ 75 (.pick (.t 72) (.t 74) (.d (.bool false))) [4,6]]) (.cond (.t 75) (.seq (.reg
 false [om_ 76 0 [],om_ 77 1 [],om_ 78 2 [],om_ 79 4 [],oo_ 80 (.call 371 [(.t 76),(.t 77),(.t 78),(.t 79)]) [0,1,2,3]]) (.cond (.t 80) .ret .skip)) .skip)) (.seq (.seq (.reg true [om_ 81 1 [],oo_ 82 (.bin .gtr (.t 81)
 (.d (.int .i64 0))) [0],om_ 83 82 [1],og_ 84 (.mv (.t 4)) 83 true [2],og_ 85 (.mv (.t 0)) 83 true [2],og_ 86 (.mv (.t 1)) 83 true [2],og_ 87 (.bin .sub (.t 86) (.d (.int .i64 1))) 83 true [5,2],og_ 88 (.ix 6 (.t 85) (.t
 87)) 83 true [4,6,2],og_ 89 (.load true 6 (.t 88)) 83 true [7,2],og_ 90 (.mv (.t 0)) 83 true [2],og_ 91 (.mv (.t 13)) 83 true [2],og_ 92 (.ix 6 (.t 90) (.t 91)) 83 true [9,10,2],og_ 93 (.load true 6 (.t 92)) 83 true
 [11,2],og_ 94 (.callv (.t 84) [(.t 89),(.t 93)]) 83 true [3,8,12,2,2],og_ 95 (.bin .lss (.t 94) (.d (.int .i64 0))) 83 true [13,2],og_ 96 (.un .not (.t 95)) 83 true [14,2],oo_ 97 (.pick (.t 83) (.t 96) (.d (.bool
 false))) [2,15]]) (.cond (.t 97) (.seq (.reg false [om_ 98 0 [],om_ 99 1 [],om_ 100 2 [],om_ 101 13 [],om_ 102 4 [],oo_ 103 (.call 372 [(.t 98),(.t 99),(.t 100),(.t 101),(.t 102)]) [0,1,2,3,4],om_ 15 103
 [5,5,0,1,2,3,4,5]]) (.seq (.reg false [om_ 104 15 [],om_ 1 104 [0,0]]) (.exit 1))) .skip)) (.seq (.reg false [om_ 106 0 [],om_ 107 1 [],om_ 108 2 [],om_ 109 13 [],om_ 110 4 [],oo_ 111 (.call 373 [(.t 106),(.t 107),(.t
 108),(.t 109),(.t 110)]) [0,1,2,3,4],om_ 105 111 [5],oo_ 112 (.ext (.t 105) 0) [6],oo_ 113 (.ext (.t 105) 1) [6],om_ 16 112 [7,5,0,1,2,3,4,5,6,7],om_ 17 113 [8,9,0,1,2,3,4,5,6,7,8,9]]) (.seq (.reg false [om_ 114 17
 [],om_ 11 114 [0,0]]) (.seq (.reg false [om_ 115 16 [],om_ 116 1 [],oo_ 117 (.bin .sub (.t 115) (.t 116)) [0,1],om_ 118 2 [],om_ 119 16 [],oo_ 120 (.bin .sub (.t 118) (.t 119)) [3,4],om_ 18 117 [2,0,1,2],om_ 19 120
 [5,6,0,1,2,3,4,5,6]]) (.seq (.reg false [om_ 121 12 [],oo_ 122 (.bin .quo (.t 121) (.d (.int .i64 8))) [0],om_ 20 122 [1,0,1]]) (.seq (.reg false [om_ 123 18 [],om_ 124 19 [],oo_ 125 (.bin .lss (.t 123) (.t 124))
 [0,1]]) (.cond (.t 125) (.seq (.reg false [om_ 126 18 [],om_ 127 20 [],oo_ 128 (.bin .geq (.t 126) (.t 127)) [0,1],om_ 10 128 [2,0,1,2]]) (.seq (.reg false [om_ 129 0 [],om_ 130 1 [],om_ 131 16 [],om_ 132 3 [],om_ 133 4
 [],oo_ 134 (.call 316 [(.t 129),(.t 130),(.t 131),(.t 132),(.t 133)]) [0,1,2,3,4]]) (.reg false [om_ 135 16 [],oo_ 136 (.bin .add (.t 135) (.d (.int .i64 1))) [0],om_ 1 136 [1,0,1]]))) (.seq (.reg false [om_ 137 19
 [],om_ 138 20 [],oo_ 139 (.bin .geq (.t 137) (.t 138)) [0,1],om_ 10 139 [2,0,1,2]]) (.seq (.reg false [om_ 140 0 [],om_ 141 16 [],oo_ 142 (.bin .add (.t 141) (.d (.int .i64 1))) [1],om_ 143 2 [],om_ 144 3 [],om_ 145 4
 [],oo_ 146 (.call 316 [(.t 140),(.t 142),(.t 143),(.t 144),(.t 145)]) [0,2,3,4,5]]) (.reg false [om_ 147 16 [],om_ 2 147 [0,0]]))))))))))))))))))))))
theorem o_ad:fnOf Tryz.prog o_ab=some (o_ac,[],148,false):=by kernel_rfl

abbrev o_ae:FuncId:=366
def o_af:C:=(.seq (.reg false [om_ 10 1 [],oo_ 11 (.bin .add (.t 10) (.d (.int .i64 1))) [0],om_ 8 11 [1,0,1]]) (.block 0 (.loop (.seq (.seq (.reg false [om_ 12 8 [],om_ 13 2 [],oo_ 14 (.bin .lss (.t 12) (.t 13)) [0,1]]) (.cond (.t
 14) .skip (.exit 0))) (.seq (.block 1 (.seq (.reg false [om_ 17 8 [],om_ 9 17 [0,0]]) (.block 2 (.loop (.seq (.seq (.reg true [om_ 18 9 [],om_ 19 1 [],oo_ 20 (.bin .gtr (.t 18) (.t 19)) [0,1],om_ 21 20 [2],og_ 22 (.mv
 (.t 3)) 21 true [3],og_ 23 (.mv (.t 0)) 21 true [3],og_ 24 (.mv (.t 9)) 21 true [3],og_ 25 (.ix 6 (.t 23) (.t 24)) 21 true [5,6,3],og_ 26 (.load true 6 (.t 25)) 21 true [7,3],og_ 27 (.mv (.t 0)) 21 true [3],og_ 28 (.mv
 (.t 9)) 21 true [3],og_ 29 (.bin .sub (.t 28) (.d (.int .i64 1))) 21 true [10,3],og_ 30 (.ix 6 (.t 27) (.t 29)) 21 true [9,11,3],og_ 31 (.load true 6 (.t 30)) 21 true [12,3],og_ 32 (.callv (.t 22) [(.t 26),(.t 31)]) 21
 true [4,8,13,3,3],og_ 33 (.bin .lss (.t 32) (.d (.int .i64 0))) 21 true [14,3],oo_ 34 (.pick (.t 21) (.t 33) (.d (.bool false))) [3,15]]) (.cond (.t 34) .skip (.exit 2))) (.seq (.block 3 (.reg true [om_ 37 0 [],om_ 38 9
 [],om_ 39 0 [],om_ 40 9 [],oo_ 41 (.bin .sub (.t 40) (.d (.int .i64 1))) [3],om_ 42 0 [],om_ 43 9 [],oo_ 44 (.bin .sub (.t 43) (.d (.int .i64 1))) [6],oo_ 45 (.ix 6 (.t 42) (.t 44)) [5,7],oo_ 46 (.load true 6 (.t 45))
 [8],om_ 47 0 [],om_ 48 9 [],oo_ 49 (.ix 6 (.t 47) (.t 48)) [10,11],oo_ 50 (.load true 6 (.t 49)) [12],oo_ 51 (.ix 6 (.t 37) (.t 38)) [0,1,0,1,5,6,7,8,9,13],on_ (.store 6 (.t 51) (.t 46)) [14,9,0,1,5,6,7,8,9,13],oo_ 52
 (.ix 6 (.t 39) (.t 41)) [2,4,0,1,2,3,4,5,6,7,8,9,10,11,12,13,14,15],on_ (.store 6 (.t 52) (.t 50)) [16,13,15,0,1,2,3,4,5,6,7,8,9,10,11,12,13,14,15]])) (.reg false [om_ 35 9 [],oo_ 36 (.bin .sub (.t 35) (.d (.int .i64
 1))) [0],om_ 9 36 [1,0,1]]))))))) (.reg false [om_ 15 8 [],oo_ 16 (.bin .add (.t 15) (.d (.int .i64 1))) [0],om_ 8 16 [1,0,1]]))))))
theorem o_ag:fnOf Tryz.prog o_ae=some (o_af,[],53,false):=by kernel_rfl

abbrev o_ah:FuncId:=319
def o_ai:C:=(.seq (.reg false [oo_ 2 (.mv (.d (.int .i64 0))) []]) (.seq (.seq (.reg false [om_ 3 0 []]) (.cond (.t 3) (.seq (.reg false [oo_ 2 (.mv (.d (.int .i64 1))) []]) .ret) .skip)) (.seq (.reg false [oo_ 2 (.mv (.d (.int
 .i64 0))) []]) .ret)))
theorem o_aj:fnOf Tryz.prog o_ah=some (o_ai,[.t 2],4,false):=by kernel_rfl

abbrev o_ak:FuncId:=102
def o_al:C:=(.seq (.reg false [oo_ 2 (.mv (.d .nilsl)) []]) (.seq (.reg false [oo_ 3 (.mv (.d .nilsl)) []]) (.seq (.seq (.reg false [om_ 6 0 [],oo_ 7 (.mrng 1000391 6 (.t 6)) [0]]) (.block 0 (.loop (.seq (.reg false [oo_ 8 (.mnx
 (.t 7)) [],oo_ 9 (.ext (.t 8) 0) [0]]) (.seq (.cond (.t 9) .skip (.exit 0)) (.block 1 (.seq (.reg false [oo_ 10 (.mety (.t 7)) [],oo_ 11 (.ext (.t 10) 0) [0],oo_ 12 (.ext (.t 10) 1) [0],oo_ 4 (.new 31 [(.int .i64
 0),(.int .i64 0),(.bool false)]) [],oo_ 5 (.new 50 [.nilsl,(.bool false),.nilsl]) [],on_ (.store 3 (.t 4) (.t 11)) [3,1,0,1,3,4],on_ (.store 3 (.t 5) (.t 12)) [4,2,5,0,1,2,3,4,5]]) (.seq (.reg true [oo_ 13 (.load true 3
 (.t 5)) [],oo_ 14 (.call 90 [(.d (.int .i64 0))]) [],oo_ 15 (.call 156 [(.t 13),(.t 14)]) [0,1,1],oo_ 16 (.bin .neq (.t 15) (.d (.int .i64 0))) [2]]) (.cond (.t 16) (.reg false [om_ 17 3 [],oo_ 18 (.load true 3 (.t 4))
 [],oo_ 19 (.load true 3 (.t 5)) [],oo_ 20 (.build [(.int .i64 0),(.int .i64 0),(.bool false),.nilsl,(.bool false),.nilsl] [(0,3,(.t 18)),(3,3,(.t 19))]) [1,2],oo_ 21 (.bsl 154 6 1 [(.int .i64 0),(.int .i64 0),(.bool
 false),.nilsl,(.bool false),.nilsl] [(0,6,(.t 20))]) [3],oo_ 22 (.app 154 6 80 (.t 17) (.t 21)) [0,4],om_ 3 22 [5,5,0,1,2,3,4,5]]) .skip))))))))) (.seq (.reg false [om_ 23 3 [],oo_ 24 (.call 217 [(.t 23),(.fn 218)])
 [0]]) (.seq (.reg false [om_ 25 3 [],om_ 2 25 [0,0]]) .ret)))))
theorem o_am:fnOf Tryz.prog o_ak=some (o_al,[.t 2],26,false):=by kernel_rfl

abbrev o_an:FuncId:=157
def o_ao:C:=(.seq (.reg false [oo_ 2 (.box 50 (.t 0)) [],oo_ 3 (.box 50 (.t 1)) [],oo_ 4 (.new 50 [.nilsl,(.bool false),.nilsl]) []]) (.seq (.reg true [oo_ 5 (.fa 0 (.t 2)) [],oo_ 6 (.load true 2 (.t 5)) [0],oo_ 7 (.load true 3 (.t
 3)) [],oo_ 8 (.call 273 [(.t 7)]) [2],oo_ 9 (.call 272 [(.t 6),(.t 8)]) [1,3,3],oo_ 10 (.fa 0 (.t 3)) [],oo_ 11 (.load true 2 (.t 10)) [5],oo_ 12 (.load true 3 (.t 2)) [],oo_ 13 (.call 273 [(.t 12)]) [7,4],oo_ 14 (.call
 272 [(.t 11),(.t 13)]) [6,8,8],oo_ 15 (.call 275 [(.t 9),(.t 14)]) [4,9,9],oo_ 16 (.load true 3 (.t 2)) [],oo_ 17 (.call 50 [(.t 16)]) [11,10],oo_ 18 (.load true 3 (.t 3)) [],oo_ 19 (.call 50 [(.t 18)]) [13,12],oo_ 20
 (.call 276 [(.t 17),(.t 19)]) [12,14,14],oo_ 21 (.call 274 [(.t 15),(.t 20)]) [10,15,15],on_ (.store 3 (.t 4) (.t 21)) [16,16,0,1,2,3,4,5,6,7,8,9,10,11,12,13,14,15,16]]) .ret))
theorem o_ap:fnOf Tryz.prog o_an=some (o_ao,[.cell 4 true 3],22,false):=by kernel_rfl

abbrev o_aq:FuncId:=275
def o_ar:C:=(.seq (.reg false [oo_ 2 (.box 48 (.t 0)) [],oo_ 3 (.box 48 (.t 1)) [],oo_ 4 (.new 48 [.nilsl,(.bool false)]) []]) (.seq (.seq (.reg false [oo_ 9 (.fa 1 (.t 2)) [],oo_ 10 (.load false 1 (.t 9)) [0],oo_ 11 (.fa 1 (.t 3))
 [],oo_ 12 (.load false 1 (.t 11)) [2],oo_ 13 (.beq false (.t 10) (.t 12)) [1,3]]) (.cond (.t 13) (.seq (.reg true [oo_ 14 (.fa 1 (.t 2)) [],oo_ 15 (.load false 1 (.t 14)) [0],oo_ 16 (.fa 0 (.t 2)) [],oo_ 17 (.load true
 1 (.t 16)) [2],oo_ 18 (.fa 0 (.t 3)) [],oo_ 19 (.load true 1 (.t 18)) [4],oo_ 20 (.call 145 [(.t 17),(.t 19)]) [3,5],oo_ 21 (.call 294 [(.t 15),(.t 20)]) [1,6,6],on_ (.store 2 (.t 4) (.t 21)) [7,7,0,1,2,3,4,5,6,7]])
 .ret) .skip)) (.seq (.seq (.reg false [oo_ 23 (.fa 0 (.t 2)) [],oo_ 24 (.load true 1 (.t 23)) [0],oo_ 25 (.fa 0 (.t 3)) [],oo_ 26 (.load true 1 (.t 25)) [2],oo_ 27 (.call 184 [(.t 24),(.t 26)]) [1,3],om_ 22 27 [4],oo_
 28 (.ext (.t 22) 0) [5],oo_ 29 (.ext (.t 22) 1) [5],oo_ 5 (.new 46 [.nilsl]) [],on_ (.store 1 (.t 5) (.t 28)) [8,6,4,0,1,2,3,4,5,6,8],om_ 6 29 [7,9,0,1,2,3,4,5,6,7,8,9]]) (.seq (.reg false [om_ 30 6 [],oo_ 31 (.bin .eql
 (.t 30) (.d (.int .i64 0))) [0]]) (.cond (.t 31) (.seq (.reg false [oo_ 32 (.fa 1 (.t 2)) [],oo_ 33 (.load false 1 (.t 32)) [0],oo_ 34 (.load true 1 (.t 5)) [],oo_ 35 (.call 294 [(.t 33),(.t 34)]) [1,2],on_ (.store 2
 (.t 4) (.t 35)) [3,3,0,1,2,3]]) .ret) .skip))) (.seq (.reg false [oo_ 37 (.fa 0 (.t 3)) [],oo_ 38 (.load true 1 (.t 37)) [0],oo_ 39 (.fa 0 (.t 2)) [],oo_ 40 (.load true 1 (.t 39)) [2],oo_ 41 (.call 184 [(.t 38),(.t
 40)]) [1,3],om_ 36 41 [4],oo_ 42 (.ext (.t 36) 0) [5],oo_ 43 (.ext (.t 36) 1) [5],oo_ 7 (.new 46 [.nilsl]) [],on_ (.store 1 (.t 7) (.t 42)) [8,6,4,0,1,2,3,4,5,6,8],om_ 8 43 [7,9,0,1,2,3,4,5,6,7,8,9]]) (.seq (.reg false
 [oo_ 44 (.fa 1 (.t 3)) [],oo_ 45 (.load false 1 (.t 44)) [0],oo_ 46 (.load true 1 (.t 7)) [],oo_ 47 (.call 294 [(.t 45),(.t 46)]) [1,2],on_ (.store 2 (.t 4) (.t 47)) [3,3,0,1,2,3]]) .ret)))))
theorem o_as:fnOf Tryz.prog o_aq=some (o_ar,[.cell 4 true 2],48,false):=by kernel_rfl

abbrev o_at:FuncId:=33
def o_au:C:=(.seq (.reg false [oo_ 2 (.box 29 (.t 0)) [],oo_ 4 (.mv (.d (.int .i64 0))) []]) (.seq (.seq (.reg false [oo_ 8 (.load true 3 (.t 2)) [],oo_ 9 (.call 121 [(.t 8)]) [0],om_ 5 9 [1,1,0,1]]) (.seq (.reg false [om_ 10 5
 [],oo_ 11 (.bin .neq (.t 10) (.d (.int .i64 0))) [0]]) (.cond (.t 11) (.seq (.reg false [om_ 12 5 [],om_ 4 12 [0,0]]) .ret) .skip))) (.seq (.seq (.reg false [om_ 13 1 [],oo_ 14 (.len (.t 13)) [0],oo_ 15 (.mv (.d (.int
 .i64 0))) []]) (.block 0 (.loop (.seq (.reg false [oo_ 16 (.bin .lss (.t 15) (.t 14)) []]) (.seq (.cond (.t 16) .skip (.exit 0)) (.seq (.block 1 (.seq (.reg false [oo_ 17 (.ix 3 (.t 13) (.t 15)) [],oo_ 18 (.load true 3
 (.t 17)) [0],oo_ 7 (.new 31 [(.int .i64 0),(.int .i64 0),(.bool false)]) [],on_ (.store 3 (.t 7) (.t 18)) [2,1,0,1,2]]) (.seq (.reg false [oo_ 19 (.load true 3 (.t 2)) [],oo_ 20 (.load true 3 (.t 7)) [],oo_ 21 (.call
 122 [(.t 19),(.t 20)]) [0,1],oo_ 22 (.un .not (.t 21)) [2]]) (.cond (.t 22) (.seq (.reg false [oo_ 4 (.mv (.d (.int .i64 2))) []]) .ret) .skip)))) (.reg false [oo_ 23 (.bin .add (.t 15) (.d (.int .i64 1))) [],om_ 15 23
 [0]]))))))) (.seq (.reg false [oo_ 4 (.mv (.d (.int .i64 0))) []]) .ret))))
theorem o_av:fnOf Tryz.prog o_at=some (o_au,[.t 4],24,false):=by kernel_rfl

abbrev o_aw:FuncId:=288
def o_ax:C:=(.seq (.reg false [oo_ 2 (.mv (.d (.bool false))) []]) (.seq (.reg false [om_ 3 0 [],om_ 4 0 [],oo_ 5 (.bin .neq (.t 3) (.t 4)) [0,1],om_ 2 5 [2,0,1,2]]) .ret))
theorem o_ay:fnOf Tryz.prog o_aw=some (o_ax,[.t 2],6,false):=by kernel_rfl

abbrev o_az:FuncId:=214
def o_b0:C:=(.seq (.reg false [oo_ 4 (.box 31 (.t 1)) [],oo_ 5 (.box 50 (.t 2)) []]) (.reg true [om_ 6 0 [],oo_ 7 (.load true 3 (.t 4)) [],om_ 8 0 [],oo_ 9 (.load true 3 (.t 4)) [],oo_ 10 (.mget 1000391 [0,0,1] 3 true
 [.nilsl,(.bool false),.nilsl] (.t 8) (.t 9)) [2,3],oo_ 11 (.load true 3 (.t 5)) [],oo_ 12 (.call 157 [(.t 10),(.t 11)]) [4,5],on_ (.mput 1000391 [0,0,1] 3 true (.t 6) (.t 7) (.t 12)) [0,1,6,6,0,1,2,3,4,5,6]]))
theorem o_b1:fnOf Tryz.prog o_az=some (o_b0,[],13,false):=by kernel_rfl

abbrev o_b2:FuncId:=61
def o_b3:C:=(.seq (.reg false [oo_ 1 (.box 37 (.t 0)) [],oo_ 2 (.mv (.d .nilsl)) [],oo_ 3 (.mv (.d (.int .i64 0))) [1]]) (.seq (.seq (.reg false [oo_ 8 (.load true 11 (.t 1)) [],oo_ 9 (.call 16 [(.t 8)]) [0],om_ 4 9 [1,1,0,1]])
 (.seq (.reg false [om_ 10 4 [],oo_ 11 (.bin .neq (.t 10) (.d (.int .i64 0))) [0]]) (.cond (.t 11) (.seq (.reg false [om_ 12 4 [],oo_ 2 (.mv (.d .nilsl)) [],om_ 3 12 [0,1,0,1]]) .ret) .skip))) (.seq (.reg false [oo_ 13
 (.build [.nilsl,(.int .i64 0)] []) [],oo_ 14 (.box 158 (.t 13)) [0],om_ 5 14 [1,0,1]]) (.seq (.reg false [om_ 15 5 [],oo_ 16 (.call 64 [(.t 15),(.d (.int .u64 1)),(.d (.int .i64 4))]) [0]]) (.seq (.reg false [om_ 17 5
 [],oo_ 18 (.fa 0 (.t 1)) [],oo_ 19 (.load false 1 (.t 18)) [1],oo_ 20 (.conv .u64 (.t 19)) [2],oo_ 21 (.call 64 [(.t 17),(.t 20),(.d (.int .i64 3))]) [0,3]]) (.seq (.seq (.reg false [oo_ 22 (.load true 11 (.t 1)) [],oo_
 23 (.call 160 [(.t 22)]) [0],oo_ 24 (.len (.t 23)) [1],oo_ 25 (.mv (.d (.int .i64 0))) []]) (.block 0 (.loop (.seq (.reg false [oo_ 26 (.bin .lss (.t 25) (.t 24)) []]) (.seq (.cond (.t 26) .skip (.exit 0)) (.seq (.block
 1 (.seq (.reg false [oo_ 27 (.ix 1 (.t 23) (.t 25)) [],oo_ 28 (.load false 1 (.t 27)) [0],om_ 7 28 [1,0,1]]) (.reg false [om_ 29 5 [],om_ 30 7 [],oo_ 31 (.conv .u64 (.t 30)) [1],oo_ 32 (.bin .add (.t 31) (.d (.int .u64
 1))) [2],oo_ 33 (.call 98 [(.t 29),(.t 32)]) [0,3]]))) (.reg false [oo_ 34 (.bin .add (.t 25) (.d (.int .i64 1))) [],om_ 25 34 [0]]))))))) (.seq (.seq (.reg false [oo_ 35 (.fa 0 (.t 1)) [],oo_ 36 (.load false 1 (.t 35))
 [0]]) (.block 2 (.seq (.reg false [oo_ 38 (.bin .eql (.t 36) (.d (.int .i64 1))) [],om_ 37 38 [0]]) (.cond (.t 37) (.reg false [oo_ 39 (.fa 1 (.t 1)) [],oo_ 40 (.load true 3 (.t 39)) [0],om_ 41 5 [],oo_ 42 (.fa 4 (.t
 1)) [],oo_ 43 (.load true 3 (.t 42)) [3],oo_ 44 (.call 161 [(.t 40),(.t 41),(.t 43)]) [1,2,4]]) (.seq (.reg false [oo_ 46 (.bin .eql (.t 36) (.d (.int .i64 2))) [],om_ 45 46 [0]]) (.cond (.t 45) (.reg false [oo_ 47 (.fa
 7 (.t 1)) [],oo_ 48 (.load false 1 (.t 47)) [0],oo_ 49 (.chk (.t 48)) [1],oo_ 50 (.fa 0 (.t 49)) [2],oo_ 51 (.load false 1 (.t 50)) [3],om_ 52 5 [],oo_ 53 (.call 162 [(.t 51),(.t 52)]) [4,5]]) (.seq (.reg false [oo_ 55
 (.bin .eql (.t 36) (.d (.int .i64 3))) [],om_ 54 55 [0]]) (.cond (.t 54) (.reg false [oo_ 56 (.fa 8 (.t 1)) [],oo_ 57 (.load false 1 (.t 56)) [0],om_ 58 5 [],oo_ 59 (.call 163 [(.t 57),(.t 58)]) [1,2]]) (.seq (.reg
 false [oo_ 61 (.bin .eql (.t 36) (.d (.int .i64 4))) [],om_ 60 61 [0]]) (.cond (.t 60) (.reg false [oo_ 62 (.fa 9 (.t 1)) [],oo_ 63 (.load false 1 (.t 62)) [0],om_ 64 5 [],oo_ 65 (.call 164 [(.t 63),(.t 64)]) [1,2]])
 (.seq (.reg false [oo_ 67 (.bin .eql (.t 36) (.d (.int .i64 5))) [],om_ 66 67 [0]]) (.cond (.t 66) (.reg false [oo_ 68 (.fa 10 (.t 1)) [],oo_ 69 (.load false 1 (.t 68)) [0],om_ 70 5 [],oo_ 71 (.call 165 [(.t 69),(.t
 70)]) [1,2]]) .skip)))))))))))) (.seq (.reg false [om_ 72 5 [],oo_ 73 (.call 68 [(.t 72)]) [0],oo_ 74 (.call 166 [(.t 73)]) [1,1],om_ 2 74 [2,2,0,1,2],oo_ 3 (.mv (.d (.int .i64 0))) [3,0,1,2,3]]) .ret))))))))
theorem o_b4:fnOf Tryz.prog o_b2=some (o_b3,[.t 2,.t 3],75,false):=by kernel_rfl

abbrev o_b5:FuncId:=160
def o_b6:C:=(.seq (.reg false [oo_ 1 (.box 37 (.t 0)) [],oo_ 2 (.mv (.d .nilsl)) []]) (.seq (.seq (.reg false [oo_ 6 (.fa 0 (.t 1)) [],oo_ 7 (.load false 1 (.t 6)) [0]]) (.block 0 (.seq (.reg false [oo_ 9 (.bin .eql (.t 7) (.d
 (.int .i64 1))) [],om_ 8 9 [0]]) (.cond (.t 8) (.seq (.reg false [oo_ 10 (.fa 1 (.t 1)) [],oo_ 11 (.load true 3 (.t 10)) [0],oo_ 12 (.call 286 [(.t 11)]) [1],om_ 2 12 [2,2,0,1,2]]) .ret) (.seq (.reg false [oo_ 14 (.bin
 .eql (.t 7) (.d (.int .i64 2))) [],om_ 13 14 [0]]) (.cond (.t 13) (.seq (.reg true [oo_ 15 (.fa 7 (.t 1)) [],oo_ 16 (.load false 1 (.t 15)) [0],oo_ 17 (.call 22 [(.t 16)]) [1],oo_ 18 (.call 286 [(.t 17)]) [2,2],oo_ 19
 (.fa 7 (.t 1)) [],oo_ 20 (.load false 1 (.t 19)) [4],oo_ 21 (.chk (.t 20)) [5],oo_ 22 (.fa 0 (.t 21)) [6],oo_ 23 (.load false 1 (.t 22)) [7],oo_ 24 (.call 28 [(.t 23)]) [8,3],oo_ 25 (.bsl 3 1 1 [(.int .i64 0)] [(0,1,(.t
 24))]) [9],oo_ 26 (.app 3 1 8 (.t 18) (.t 25)) [3,10,9],om_ 2 26 [11,11,0,1,2,3,4,5,6,7,8,9,10,11]]) .ret) (.seq (.reg false [oo_ 28 (.bin .eql (.t 7) (.d (.int .i64 3))) [],om_ 27 28 [0]]) (.cond (.t 27) (.seq (.reg
 false [oo_ 29 (.fa 8 (.t 1)) [],oo_ 30 (.load false 1 (.t 29)) [0],oo_ 31 (.call 108 [(.t 30)]) [1],oo_ 3 (.new 166 [(.int .i64 0),(.int .i64 0),(.int .i64 0)]) [],on_ (.store 3 (.t 3) (.t 31)) [3,2,2,0,1,2,3]]) (.seq
 (.reg true [oo_ 32 (.fa 0 (.t 3)) [],oo_ 33 (.load false 1 (.t 32)) [0],oo_ 34 (.fa 1 (.t 3)) [],oo_ 35 (.load false 1 (.t 34)) [2],oo_ 36 (.fa 2 (.t 3)) [],oo_ 37 (.load false 1 (.t 36)) [4],oo_ 38 (.fa 8 (.t 1))
 [],oo_ 39 (.load false 1 (.t 38)) [6],oo_ 40 (.call 109 [(.t 39)]) [7],oo_ 41 (.bsl 3 1 4 [(.int .i64 0),(.int .i64 0),(.int .i64 0),(.int .i64 0)] [(0,1,(.t 33)),(1,1,(.t 35)),(2,1,(.t 37)),(3,1,(.t 40))])
 [1,3,5,8],om_ 2 41 [9,8,0,1,2,3,4,5,6,7,8,9]]) .ret)) (.seq (.reg false [oo_ 43 (.bin .eql (.t 7) (.d (.int .i64 4))) [],om_ 42 43 [0]]) (.cond (.t 42) (.seq (.reg false [oo_ 44 (.fa 9 (.t 1)) [],oo_ 45 (.load false 1
 (.t 44)) [0],oo_ 46 (.call 83 [(.t 45)]) [1],oo_ 4 (.new 196 [(.int .i64 0),(.int .i64 0),(.int .i64 0),(.int .i64 0),(.int .i64 0)]) [],on_ (.store 5 (.t 4) (.t 46)) [3,2,2,0,1,2,3]]) (.seq (.reg true [oo_ 47 (.fa 0
 (.t 4)) [],oo_ 48 (.load false 1 (.t 47)) [0],oo_ 49 (.fa 1 (.t 4)) [],oo_ 50 (.load false 1 (.t 49)) [2],oo_ 51 (.bsl 3 1 2 [(.int .i64 0),(.int .i64 0)] [(0,1,(.t 48)),(1,1,(.t 50))]) [1,3],oo_ 52 (.fa 2 (.t 4))
 [],oo_ 53 (.load true 3 (.t 52)) [5],oo_ 54 (.call 286 [(.t 53)]) [6],oo_ 55 (.app 3 1 8 (.t 51) (.t 54)) [4,7,7],om_ 2 55 [8,8,0,1,2,3,4,5,6,7,8]]) .ret)) .skip)))))))))) (.seq (.reg false [oo_ 56 (.fa 10 (.t 1))
 [],oo_ 57 (.load false 1 (.t 56)) [0],oo_ 58 (.call 91 [(.t 57)]) [1],oo_ 5 (.new 209 [(.int .i64 0),(.int .i64 0),(.int .i64 0)]) [],on_ (.store 3 (.t 5) (.t 58)) [3,2,2,0,1,2,3]]) (.seq (.reg false [oo_ 59 (.fa 0 (.t
 5)) [],oo_ 60 (.load false 1 (.t 59)) [0],oo_ 61 (.fa 1 (.t 5)) [],oo_ 62 (.load false 1 (.t 61)) [2],oo_ 63 (.fa 2 (.t 5)) [],oo_ 64 (.load false 1 (.t 63)) [4],oo_ 65 (.bsl 3 1 3 [(.int .i64 0),(.int .i64 0),(.int
 .i64 0)] [(0,1,(.t 60)),(1,1,(.t 62)),(2,1,(.t 64))]) [1,3,5],om_ 2 65 [6,0,1,2,3,4,5,6]]) .ret))))
theorem o_b7:fnOf Tryz.prog o_b5=some (o_b6,[.t 2],66,false):=by kernel_rfl

abbrev o_b8:FuncId:=286
def o_b9:C:=(.seq (.reg false [oo_ 1 (.box 29 (.t 0)) [],oo_ 2 (.mv (.d .nilsl)) []]) (.seq (.reg false [oo_ 3 (.fa 0 (.t 1)) [],oo_ 4 (.load false 1 (.t 3)) [0],oo_ 5 (.fa 1 (.t 1)) [],oo_ 6 (.load false 1 (.t 5)) [2],oo_ 7 (.fa 2
 (.t 1)) [],oo_ 8 (.load false 1 (.t 7)) [4],oo_ 9 (.bsl 3 1 3 [(.int .i64 0),(.int .i64 0),(.int .i64 0)] [(0,1,(.t 4)),(1,1,(.t 6)),(2,1,(.t 8))]) [1,3,5],om_ 2 9 [6,0,1,2,3,4,5,6]]) .ret))
theorem o_ba:fnOf Tryz.prog o_b8=some (o_b9,[.t 2],10,false):=by kernel_rfl

abbrev o_bb:FuncId:=161
def o_bc:C:=(.seq (.reg false [oo_ 3 (.box 29 (.t 0)) [],oo_ 5 (.box 31 (.t 2)) [],oo_ 6 (.mv (.d (.int .i64 0))) []]) (.seq (.seq (.reg false [oo_ 10 (.load true 3 (.t 3)) [],oo_ 11 (.load true 3 (.t 5)) [],oo_ 12 (.bsl 31 3 1
 [(.int .i64 0),(.int .i64 0),(.bool false)] [(0,3,(.t 11))]) [1],oo_ 13 (.call 33 [(.t 10),(.t 12)]) [0,2],om_ 7 13 [3,3,0,1,2,3]]) (.seq (.reg false [om_ 14 7 [],oo_ 15 (.bin .neq (.t 14) (.d (.int .i64 0))) [0]])
 (.cond (.t 15) (.seq (.reg false [om_ 16 7 [],om_ 6 16 [0,0]]) .ret) .skip))) (.seq (.reg false [oo_ 18 (.load true 3 (.t 3)) [],oo_ 19 (.call 175 [(.t 18)]) [0],om_ 17 19 [1],oo_ 20 (.ext (.t 17) 0) [2],oo_ 21 (.ext
 (.t 17) 1) [2],om_ 8 20 [3,1,0,1,2,3],om_ 9 21 [4,5,0,1,2,3,4,5]]) (.seq (.reg false [om_ 22 1 [],oo_ 23 (.fa 0 (.t 5)) [],oo_ 24 (.load false 1 (.t 23)) [1],oo_ 25 (.conv .u64 (.t 24)) [2],om_ 26 8 [],oo_ 27 (.call 64
 [(.t 22),(.t 25),(.t 26)]) [0,3,4]]) (.seq (.reg false [om_ 28 1 [],oo_ 29 (.fa 1 (.t 5)) [],oo_ 30 (.load false 1 (.t 29)) [1],oo_ 31 (.conv .u64 (.t 30)) [2],om_ 32 9 [],oo_ 33 (.call 64 [(.t 28),(.t 31),(.t 32)])
 [0,3,4]]) (.seq (.reg false [om_ 34 1 [],oo_ 35 (.fa 2 (.t 5)) [],oo_ 36 (.load false 1 (.t 35)) [1],oo_ 37 (.call 172 [(.t 34),(.t 36)]) [0,2]]) (.seq (.reg false [oo_ 6 (.mv (.d (.int .i64 0))) []]) .ret)))))))
theorem o_bd:fnOf Tryz.prog o_bb=some (o_bc,[.t 6],38,false):=by kernel_rfl

abbrev o_be:FuncId:=175
def o_bf:C:=(.seq (.reg false [oo_ 1 (.box 29 (.t 0)) [],oo_ 2 (.mv (.d (.int .i64 0))) [],oo_ 3 (.mv (.d (.int .i64 0))) [1]]) (.seq (.seq (.reg false [oo_ 4 (.fa 0 (.t 1)) [],oo_ 5 (.load false 1 (.t 4)) [0],oo_ 6 (.bin .eql (.t
 5) (.d (.int .i64 4))) [1]]) (.cond (.t 6) (.seq (.reg true [oo_ 7 (.fa 1 (.t 1)) [],oo_ 8 (.load false 1 (.t 7)) [0],oo_ 9 (.conv .u64 (.t 8)) [1],oo_ 10 (.call 159 [(.t 9)]) [2],oo_ 11 (.fa 2 (.t 1)) [],oo_ 12 (.load
 false 1 (.t 11)) [4],oo_ 13 (.conv .u64 (.t 12)) [5],oo_ 14 (.call 159 [(.t 13)]) [6,3],om_ 2 10 [3,7,0,1,2,3],om_ 3 14 [7,8,0,1,2,3,4,5,6,7,8]]) .ret) .skip)) (.seq (.reg false [oo_ 15 (.fa 2 (.t 1)) [],oo_ 16 (.load
 false 1 (.t 15)) [0],om_ 2 16 [1,0,1],oo_ 3 (.mv (.d (.int .i64 0))) [2,0,1,2]]) .ret)))
theorem o_bg:fnOf Tryz.prog o_be=some (o_bf,[.t 2,.t 3],17,false):=by kernel_rfl

abbrev o_bh:FuncId:=68
def o_bi:C:=(.seq (.reg false [oo_ 2 (.mv (.d .nilsl)) []]) (.seq (.reg false [om_ 4 0 [],oo_ 5 (.chk (.t 4)) [0],oo_ 6 (.fa 0 (.t 5)) [1],oo_ 7 (.load false 1 (.t 6)) [2],oo_ 8 (.len (.t 7)) [3],oo_ 9 (.mksl 5 1 1 [(.int .u8 0)]
 (.t 8) (.t 8)) [4,4],om_ 3 9 [5,0,1,2,3,4,5]]) (.seq (.reg false [om_ 10 3 [],om_ 11 0 [],oo_ 12 (.chk (.t 11)) [1],oo_ 13 (.fa 0 (.t 12)) [2],oo_ 14 (.load false 1 (.t 13)) [3],oo_ 15 (.cpy 1 (.t 10) (.t 14)) [0,4]])
 (.seq (.reg false [om_ 16 3 [],om_ 2 16 [0,0]]) .ret))))
theorem o_bj:fnOf Tryz.prog o_bh=some (o_bi,[.t 2],17,false):=by kernel_rfl

abbrev o_bk:FuncId:=166
def o_bl:C:=(.seq (.reg false [oo_ 2 (.mv (.d .nilsl)) []]) (.seq (.reg false [om_ 6 0 [],oo_ 7 (.call 178 [(.t 6)]) [0],om_ 3 7 [1,1,0,1]]) (.seq (.seq (.reg false [om_ 8 0 [],oo_ 9 (.call 287 [(.t 8)]) [0],oo_ 4 (.mv (.d (.int
 .i64 3))) [1],om_ 5 9 [1,2,0,1,2]]) (.block 0 (.loop (.seq (.seq (.reg false [om_ 10 4 [],oo_ 11 (.bin .geq (.t 10) (.d (.int .i64 0))) [0]]) (.cond (.t 11) .skip (.exit 0))) (.seq (.block 1 (.reg false [om_ 14 3 [],om_
 15 5 [],om_ 16 4 [],oo_ 17 (.bin .mul (.d (.int .i64 8)) (.t 16)) [2],oo_ 18 (.bin .shr (.t 15) (.t 17)) [1,3],oo_ 19 (.conv .u8 (.t 18)) [4],oo_ 20 (.bsl 5 1 1 [(.int .u8 0)] [(0,1,(.t 19))]) [5],oo_ 21 (.app 5 1 1 (.t
 14) (.t 20)) [0,6],om_ 3 21 [7,7,0,1,2,3,4,5,6,7]])) (.reg false [om_ 12 4 [],oo_ 13 (.bin .sub (.t 12) (.d (.int .i64 1))) [0],om_ 4 13 [1,0,1]])))))) (.seq (.reg false [om_ 22 3 [],om_ 2 22 [0,0]]) .ret))))
theorem o_bm:fnOf Tryz.prog o_bk=some (o_bl,[.t 2],23,false):=by kernel_rfl

abbrev o_bn:FuncId:=178
def o_bo:C:=(.seq (.reg false [oo_ 2 (.mv (.d .nilsl)) []]) (.seq (.seq (.reg false [om_ 3 0 [],oo_ 4 (.snl false (.t 3)) [0]]) (.cond (.t 4) (.seq (.reg false [oo_ 2 (.mv (.d .nilsl)) []]) .ret) .skip)) (.seq (.reg false [oo_ 5
 (.bsl0) [],om_ 6 0 [],oo_ 7 (.app 5 1 1 (.t 5) (.t 6)) [0,1],om_ 2 7 [2,2,0,1,2]]) .ret)))
theorem o_bp:fnOf Tryz.prog o_bn=some (o_bo,[.t 2],8,false):=by kernel_rfl

abbrev o_bq:FuncId:=287
def o_br:C:=(.seq (.reg false [oo_ 2 (.mv (.d (.int .u32 0))) []]) (.seq (.reg false [om_ 3 0 [],oo_ 4 (.call 364 [(.d (.int .u32 0)),(.t 3)]) [0],om_ 2 4 [1,1,0,1]]) .ret))
theorem o_bs:fnOf Tryz.prog o_bq=some (o_br,[.t 2],5,false):=by kernel_rfl

abbrev o_bt:FuncId:=364
def o_bu:C:=(.seq (.reg false [oo_ 4 (.mv (.d (.int .u32 0))) []]) (.seq (.reg false [oo_ 9 (.call 394 []) [],oo_ 5 (.new 519 [(.int .u32 0),(.int .u32 0),(.int .u32 0),(.int .u32 0),(.int .u32 0),(.int .u32 0),(.int .u32 0),(.int
 .u32 0),(.int .u32 0),(.int .u32 0),(.int .u32 0),(.int .u32 0),(.int .u32 0),(.int .u32 0),(.int .u32 0),(.int .u32 0),(.int .u32 0),(.int .u32 0),(.int .u32 0),(.int .u32 0),(.int .u32 0),(.int .u32 0),(.int .u32
 0),(.int .u32 0),(.int .u32 0),(.int .u32 0),(.int .u32 0),(.int .u32 0),(.int .u32 0),(.int .u32 0),(.int .u32 0),(.int .u32 0),(.int .u32 0),(.int .u32 0),(.int .u32 0),(.int .u32 0),(.int .u32 0),(.int .u32 0),(.int
 .u32 0),(.int .u32 0),(.int .u32 0),(.int .u32 0),(.int .u32 0),(.int .u32 0),(.int .u32 0),(.int .u32 0),(.int .u32 0),(.int .u32 0),(.int .u32 0),(.int .u32 0),(.int .u32 0),(.int .u32 0),(.int .u32 0),(.int .u32
 0),(.int .u32 0),(.int .u32 0),(.int .u32 0),(.int .u32 0),(.int .u32 0),(.int .u32 0),(.int .u32 0),(.int .u32 0),(.int .u32 0),(.int .u32 0),(.int .u32 0),(.int .u32 0),(.int .u32 0),(.int .u32 0),(.int .u32 0),(.int
 .u32 0),(.int .u32 0),(.int .u32 0),(.int .u32 0),(.int .u32 0),(.int .u32 0),(.int .u32 0),(.int .u32 0),(.int .u32 0),(.int .u32 0),(.int .u32 0),(.int .u32 0),(.int .u32 0),(.int .u32 0),(.int .u32 0),(.int .u32
 0),(.int .u32 0),(.int .u32 0),(.int .u32 0),(.int .u32 0),(.int .u32 0),(.int .u32 0),(.int .u32 0),(.int .u32 0),(.int .u32 0),(.int .u32 0),(.int .u32 0),(.int .u32 0),(.int .u32 0),(.int .u32 0),(.int .u32 0),(.int
 .u32 0),(.int .u32 0),(.int .u32 0),(.int .u32 0),(.int .u32 0),(.int .u32 0),(.int .u32 0),(.int .u32 0),(.int .u32 0),(.int .u32 0),(.int .u32 0),(.int .u32 0),(.int .u32 0),(.int .u32 0),(.int .u32 0),(.int .u32
 0),(.int .u32 0),(.int .u32 0),(.int .u32 0),(.int .u32 0),(.int .u32 0),(.int .u32 0),(.int .u32 0),(.int .u32 0),(.int .u32 0),(.int .u32 0),(.int .u32 0),(.int .u32 0),(.int .u32 0),(.int .u32 0),(.int .u32 0),(.int
 .u32 0),(.int .u32 0),(.int .u32 0),(.int .u32 0),(.int .u32 0),(.int .u32 0),(.int .u32 0),(.int .u32 0),(.int .u32 0),(.int .u32 0),(.int .u32 0),(.int .u32 0),(.int .u32 0),(.int .u32 0),(.int .u32 0),(.int .u32
 0),(.int .u32 0),(.int .u32 0),(.int .u32 0),(.int .u32 0),(.int .u32 0),(.int .u32 0),(.int .u32 0),(.int .u32 0),(.int .u32 0),(.int .u32 0),(.int .u32 0),(.int .u32 0),(.int .u32 0),(.int .u32 0),(.int .u32 0),(.int
 .u32 0),(.int .u32 0),(.int .u32 0),(.int .u32 0),(.int .u32 0),(.int .u32 0),(.int .u32 0),(.int .u32 0),(.int .u32 0),(.int .u32 0),(.int .u32 0),(.int .u32 0),(.int .u32 0),(.int .u32 0),(.int .u32 0),(.int .u32
 0),(.int .u32 0),(.int .u32 0),(.int .u32 0),(.int .u32 0),(.int .u32 0),(.int .u32 0),(.int .u32 0),(.int .u32 0),(.int .u32 0),(.int .u32 0),(.int .u32 0),(.int .u32 0),(.int .u32 0),(.int .u32 0),(.int .u32 0),(.int
 .u32 0),(.int .u32 0),(.int .u32 0),(.int .u32 0),(.int .u32 0),(.int .u32 0),(.int .u32 0),(.int .u32 0),(.int .u32 0),(.int .u32 0),(.int .u32 0),(.int .u32 0),(.int .u32 0),(.int .u32 0),(.int .u32 0),(.int .u32
 0),(.int .u32 0),(.int .u32 0),(.int .u32 0),(.int .u32 0),(.int .u32 0),(.int .u32 0),(.int .u32 0),(.int .u32 0),(.int .u32 0),(.int .u32 0),(.int .u32 0),(.int .u32 0),(.int .u32 0),(.int .u32 0),(.int .u32 0),(.int
 .u32 0),(.int .u32 0),(.int .u32 0),(.int .u32 0),(.int .u32 0),(.int .u32 0),(.int .u32 0),(.int .u32 0),(.int .u32 0),(.int .u32 0),(.int .u32 0),(.int .u32 0),(.int .u32 0),(.int .u32 0),(.int .u32 0),(.int .u32
 0),(.int .u32 0),(.int .u32 0),(.int .u32 0),(.int .u32 0),(.int .u32 0),(.int .u32 0),(.int .u32 0),(.int .u32 0),(.int .u32 0),(.int .u32 0),(.int .u32 0),(.int .u32 0),(.int .u32 0),(.int .u32 0),(.int .u32 0),(.int
 .u32 0)]) [],on_ (.store 256 (.t 5) (.t 9)) [1,0,0,0,1]]) (.seq (.reg false [om_ 10 0 [],oo_ 11 (.un .xor (.t 10)) [0],om_ 6 11 [1,0,1]]) (.seq (.seq (.reg false [om_ 12 1 [],oo_ 13 (.len (.t 12)) [0],oo_ 14 (.mv (.d
 (.int .i64 0))) []]) (.block 0 (.loop (.seq (.reg false [oo_ 15 (.bin .lss (.t 14) (.t 13)) []]) (.seq (.cond (.t 15) .skip (.exit 0)) (.seq (.block 1 (.seq (.reg false [oo_ 16 (.ix 1 (.t 12) (.t 14)) [],oo_ 17 (.load
 false 1 (.t 16)) [0],om_ 8 17 [1,0,1]]) (.reg false [om_ 18 6 [],oo_ 19 (.conv .u8 (.t 18)) [0],om_ 20 8 [],oo_ 21 (.bin .xor (.t 19) (.t 20)) [1,2],oo_ 22 (.ixa 256 1 (.t 5) (.t 21)) [3],oo_ 23 (.load false 1 (.t 22))
 [4],om_ 24 6 [],oo_ 25 (.bin .shr (.t 24) (.d (.int .u64 8))) [6],oo_ 26 (.bin .xor (.t 23) (.t 25)) [5,7],om_ 6 26 [8,0,1,2,3,4,5,6,7,8]]))) (.reg false [oo_ 27 (.bin .add (.t 14) (.d (.int .i64 1))) [],om_ 14 27
 [0]]))))))) (.seq (.reg false [om_ 28 6 [],oo_ 29 (.un .xor (.t 28)) [0],om_ 4 29 [1,0,1]]) .ret)))))
theorem o_bv:fnOf Tryz.prog o_bt=some (o_bu,[.t 4],30,false):=by kernel_rfl

abbrev o_bw:FuncId:=394
def o_bx:C:=(.seq (.reg false [oo_ 0 (.new 519 [(.int .u32 0),(.int .u32 0),(.int .u32 0),(.int .u32 0),(.int .u32 0),(.int .u32 0),(.int .u32 0),(.int .u32 0),(.int .u32 0),(.int .u32 0),(.int .u32 0),(.int .u32 0),(.int .u32
 0),(.int .u32 0),(.int .u32 0),(.int .u32 0),(.int .u32 0),(.int .u32 0),(.int .u32 0),(.int .u32 0),(.int .u32 0),(.int .u32 0),(.int .u32 0),(.int .u32 0),(.int .u32 0),(.int .u32 0),(.int .u32 0),(.int .u32 0),(.int
 .u32 0),(.int .u32 0),(.int .u32 0),(.int .u32 0),(.int .u32 0),(.int .u32 0),(.int .u32 0),(.int .u32 0),(.int .u32 0),(.int .u32 0),(.int .u32 0),(.int .u32 0),(.int .u32 0),(.int .u32 0),(.int .u32 0),(.int .u32
 0),(.int .u32 0),(.int .u32 0),(.int .u32 0),(.int .u32 0),(.int .u32 0),(.int .u32 0),(.int .u32 0),(.int .u32 0),(.int .u32 0),(.int .u32 0),(.int .u32 0),(.int .u32 0),(.int .u32 0),(.int .u32 0),(.int .u32 0),(.int
 .u32 0),(.int .u32 0),(.int .u32 0),(.int .u32 0),(.int .u32 0),(.int .u32 0),(.int .u32 0),(.int .u32 0),(.int .u32 0),(.int .u32 0),(.int .u32 0),(.int .u32 0),(.int .u32 0),(.int .u32 0),(.int .u32 0),(.int .u32
 0),(.int .u32 0),(.int .u32 0),(.int .u32 0),(.int .u32 0),(.int .u32 0),(.int .u32 0),(.int .u32 0),(.int .u32 0),(.int .u32 0),(.int .u32 0),(.int .u32 0),(.int .u32 0),(.int .u32 0),(.int .u32 0),(.int .u32 0),(.int
 .u32 0),(.int .u32 0),(.int .u32 0),(.int .u32 0),(.int .u32 0),(.int .u32 0),(.int .u32 0),(.int .u32 0),(.int .u32 0),(.int .u32 0),(.int .u32 0),(.int .u32 0),(.int .u32 0),(.int .u32 0),(.int .u32 0),(.int .u32
 0),(.int .u32 0),(.int .u32 0),(.int .u32 0),(.int .u32 0),(.int .u32 0),(.int .u32 0),(.int .u32 0),(.int .u32 0),(.int .u32 0),(.int .u32 0),(.int .u32 0),(.int .u32 0),(.int .u32 0),(.int .u32 0),(.int .u32 0),(.int
 .u32 0),(.int .u32 0),(.int .u32 0),(.int .u32 0),(.int .u32 0),(.int .u32 0),(.int .u32 0),(.int .u32 0),(.int .u32 0),(.int .u32 0),(.int .u32 0),(.int .u32 0),(.int .u32 0),(.int .u32 0),(.int .u32 0),(.int .u32
 0),(.int .u32 0),(.int .u32 0),(.int .u32 0),(.int .u32 0),(.int .u32 0),(.int .u32 0),(.int .u32 0),(.int .u32 0),(.int .u32 0),(.int .u32 0),(.int .u32 0),(.int .u32 0),(.int .u32 0),(.int .u32 0),(.int .u32 0),(.int
 .u32 0),(.int .u32 0),(.int .u32 0),(.int .u32 0),(.int .u32 0),(.int .u32 0),(.int .u32 0),(.int .u32 0),(.int .u32 0),(.int .u32 0),(.int .u32 0),(.int .u32 0),(.int .u32 0),(.int .u32 0),(.int .u32 0),(.int .u32
 0),(.int .u32 0),(.int .u32 0),(.int .u32 0),(.int .u32 0),(.int .u32 0),(.int .u32 0),(.int .u32 0),(.int .u32 0),(.int .u32 0),(.int .u32 0),(.int .u32 0),(.int .u32 0),(.int .u32 0),(.int .u32 0),(.int .u32 0),(.int
 .u32 0),(.int .u32 0),(.int .u32 0),(.int .u32 0),(.int .u32 0),(.int .u32 0),(.int .u32 0),(.int .u32 0),(.int .u32 0),(.int .u32 0),(.int .u32 0),(.int .u32 0),(.int .u32 0),(.int .u32 0),(.int .u32 0),(.int .u32
 0),(.int .u32 0),(.int .u32 0),(.int .u32 0),(.int .u32 0),(.int .u32 0),(.int .u32 0),(.int .u32 0),(.int .u32 0),(.int .u32 0),(.int .u32 0),(.int .u32 0),(.int .u32 0),(.int .u32 0),(.int .u32 0),(.int .u32 0),(.int
 .u32 0),(.int .u32 0),(.int .u32 0),(.int .u32 0),(.int .u32 0),(.int .u32 0),(.int .u32 0),(.int .u32 0),(.int .u32 0),(.int .u32 0),(.int .u32 0),(.int .u32 0),(.int .u32 0),(.int .u32 0),(.int .u32 0),(.int .u32
 0),(.int .u32 0),(.int .u32 0),(.int .u32 0),(.int .u32 0),(.int .u32 0),(.int .u32 0),(.int .u32 0),(.int .u32 0),(.int .u32 0),(.int .u32 0),(.int .u32 0),(.int .u32 0),(.int .u32 0),(.int .u32 0),(.int .u32 0),(.int
 .u32 0),(.int .u32 0),(.int .u32 0),(.int .u32 0),(.int .u32 0),(.int .u32 0),(.int .u32 0),(.int .u32 0),(.int .u32 0),(.int .u32 0),(.int .u32 0)]) []]) (.seq (.reg false [oo_ 1 (.new 519 [(.int .u32 0),(.int .u32
 0),(.int .u32 0),(.int .u32 0),(.int .u32 0),(.int .u32 0),(.int .u32 0),(.int .u32 0),(.int .u32 0),(.int .u32 0),(.int .u32 0),(.int .u32 0),(.int .u32 0),(.int .u32 0),(.int .u32 0),(.int .u32 0),(.int .u32 0),(.int
 .u32 0),(.int .u32 0),(.int .u32 0),(.int .u32 0),(.int .u32 0),(.int .u32 0),(.int .u32 0),(.int .u32 0),(.int .u32 0),(.int .u32 0),(.int .u32 0),(.int .u32 0),(.int .u32 0),(.int .u32 0),(.int .u32 0),(.int .u32
 0),(.int .u32 0),(.int .u32 0),(.int .u32 0),(.int .u32 0),(.int .u32 0),(.int .u32 0),(.int .u32 0),(.int .u32 0),(.int .u32 0),(.int .u32 0),(.int .u32 0),(.int .u32 0),(.int .u32 0),(.int .u32 0),(.int .u32 0),(.int
 .u32 0),(.int .u32 0),(.int .u32 0),(.int .u32 0),(.int .u32 0),(.int .u32 0),(.int .u32 0),(.int .u32 0),(.int .u32 0),(.int .u32 0),(.int .u32 0),(.int .u32 0),(.int .u32 0),(.int .u32 0),(.int .u32 0),(.int .u32
 0),(.int .u32 0),(.int .u32 0),(.int .u32 0),(.int .u32 0),(.int .u32 0),(.int .u32 0),(.int .u32 0),(.int .u32 0),(.int .u32 0),(.int .u32 0),(.int .u32 0),(.int .u32 0),(.int .u32 0),(.int .u32 0),(.int .u32 0),(.int
 .u32 0),(.int .u32 0),(.int .u32 0),(.int .u32 0),(.int .u32 0),(.int .u32 0),(.int .u32 0),(.int .u32 0),(.int .u32 0),(.int .u32 0),(.int .u32 0),(.int .u32 0),(.int .u32 0),(.int .u32 0),(.int .u32 0),(.int .u32
 0),(.int .u32 0),(.int .u32 0),(.int .u32 0),(.int .u32 0),(.int .u32 0),(.int .u32 0),(.int .u32 0),(.int .u32 0),(.int .u32 0),(.int .u32 0),(.int .u32 0),(.int .u32 0),(.int .u32 0),(.int .u32 0),(.int .u32 0),(.int
 .u32 0),(.int .u32 0),(.int .u32 0),(.int .u32 0),(.int .u32 0),(.int .u32 0),(.int .u32 0),(.int .u32 0),(.int .u32 0),(.int .u32 0),(.int .u32 0),(.int .u32 0),(.int .u32 0),(.int .u32 0),(.int .u32 0),(.int .u32
 0),(.int .u32 0),(.int .u32 0),(.int .u32 0),(.int .u32 0),(.int .u32 0),(.int .u32 0),(.int .u32 0),(.int .u32 0),(.int .u32 0),(.int .u32 0),(.int .u32 0),(.int .u32 0),(.int .u32 0),(.int .u32 0),(.int .u32 0),(.int
 .u32 0),(.int .u32 0),(.int .u32 0),(.int .u32 0),(.int .u32 0),(.int .u32 0),(.int .u32 0),(.int .u32 0),(.int .u32 0),(.int .u32 0),(.int .u32 0),(.int .u32 0),(.int .u32 0),(.int .u32 0),(.int .u32 0),(.int .u32
 0),(.int .u32 0),(.int .u32 0),(.int .u32 0),(.int .u32 0),(.int .u32 0),(.int .u32 0),(.int .u32 0),(.int .u32 0),(.int .u32 0),(.int .u32 0),(.int .u32 0),(.int .u32 0),(.int .u32 0),(.int .u32 0),(.int .u32 0),(.int
 .u32 0),(.int .u32 0),(.int .u32 0),(.int .u32 0),(.int .u32 0),(.int .u32 0),(.int .u32 0),(.int .u32 0),(.int .u32 0),(.int .u32 0),(.int .u32 0),(.int .u32 0),(.int .u32 0),(.int .u32 0),(.int .u32 0),(.int .u32
 0),(.int .u32 0),(.int .u32 0),(.int .u32 0),(.int .u32 0),(.int .u32 0),(.int .u32 0),(.int .u32 0),(.int .u32 0),(.int .u32 0),(.int .u32 0),(.int .u32 0),(.int .u32 0),(.int .u32 0),(.int .u32 0),(.int .u32 0),(.int
 .u32 0),(.int .u32 0),(.int .u32 0),(.int .u32 0),(.int .u32 0),(.int .u32 0),(.int .u32 0),(.int .u32 0),(.int .u32 0),(.int .u32 0),(.int .u32 0),(.int .u32 0),(.int .u32 0),(.int .u32 0),(.int .u32 0),(.int .u32
 0),(.int .u32 0),(.int .u32 0),(.int .u32 0),(.int .u32 0),(.int .u32 0),(.int .u32 0),(.int .u32 0),(.int .u32 0),(.int .u32 0),(.int .u32 0),(.int .u32 0),(.int .u32 0),(.int .u32 0),(.int .u32 0),(.int .u32 0),(.int
 .u32 0),(.int .u32 0),(.int .u32 0),(.int .u32 0),(.int .u32 0),(.int .u32 0),(.int .u32 0),(.int .u32 0),(.int .u32 0),(.int .u32 0),(.int .u32 0),(.int .u32 0),(.int .u32 0),(.int .u32 0),(.int .u32 0),(.int .u32
 0),(.int .u32 0),(.int .u32 0),(.int .u32 0),(.int .u32 0),(.int .u32 0),(.int .u32 0)]) []]) (.seq (.seq (.reg false [oo_ 5 (.mv (.d (.int .i64 0))) []]) (.block 0 (.loop (.seq (.reg false [oo_ 6 (.bin .lss (.t 5) (.d
 (.int .i64 256))) []]) (.seq (.cond (.t 6) .skip (.exit 0)) (.seq (.block 1 (.seq (.reg false [om_ 7 5 [],om_ 2 7 [0,0]]) (.seq (.reg false [om_ 8 2 [],oo_ 9 (.conv .u32 (.t 8)) [0],om_ 3 9 [1,0,1]]) (.seq (.seq (.reg
 false [oo_ 10 (.mv (.d (.int .i64 0))) []]) (.block 2 (.loop (.seq (.reg false [oo_ 11 (.bin .lss (.t 10) (.d (.int .i64 8))) []]) (.seq (.cond (.t 11) .skip (.exit 2)) (.seq (.block 3 (.seq (.reg false [om_ 12 3 [],oo_
 13 (.bin .and (.t 12) (.d (.int .u32 1))) [0],om_ 4 13 [1,0,1]]) (.seq (.reg false [om_ 14 4 [],oo_ 15 (.bin .eql (.t 14) (.d (.int .u32 1))) [0]]) (.cond (.t 15) (.reg false [om_ 16 3 [],oo_ 17 (.bin .shr (.t 16) (.d
 (.int .u64 1))) [0],oo_ 18 (.bin .xor (.t 17) (.d (.int .u32 3988292384))) [1],om_ 3 18 [2,0,1,2]]) (.reg false [om_ 19 3 [],oo_ 20 (.bin .shr (.t 19) (.d (.int .u64 1))) [0],om_ 3 20 [1,0,1]]))))) (.reg false [oo_ 21
 (.bin .add (.t 10) (.d (.int .i64 1))) [],om_ 10 21 [0]]))))))) (.reg false [om_ 22 2 [],om_ 23 3 [],oo_ 24 (.ixa 256 1 (.t 1) (.t 22)) [0,0,1],on_ (.store 1 (.t 24) (.t 23)) [2,1,0,1]]))))) (.reg false [oo_ 25 (.bin
 .add (.t 5) (.d (.int .i64 1))) [],om_ 5 25 [0]]))))))) (.seq (.reg false [oo_ 26 (.load true 256 (.t 1)) [],on_ (.store 256 (.t 0) (.t 26)) [0,0]]) .ret))))
theorem o_by:fnOf Tryz.prog o_bw=some (o_bx,[.cell 0 true 256],27,false):=by kernel_rfl

abbrev o_bz:FuncId:=218
def o_c0:C:=(.seq (.reg false [oo_ 2 (.box 154 (.t 0)) [],oo_ 3 (.box 154 (.t 1)) [],oo_ 4 (.mv (.d (.int .i64 0))) []]) (.seq (.reg true [oo_ 7 (.fa 0 (.t 2)) [],oo_ 8 (.load true 3 (.t 7)) [0],oo_ 9 (.fa 0 (.t 3)) [],oo_ 10
 (.load true 3 (.t 9)) [2],oo_ 5 (.new 31 [(.int .i64 0),(.int .i64 0),(.bool false)]) [],oo_ 6 (.new 31 [(.int .i64 0),(.int .i64 0),(.bool false)]) [],on_ (.store 3 (.t 5) (.t 8)) [4,1,0,1,4,5],on_ (.store 3 (.t 6) (.t
 10)) [5,3,6,0,1,2,3,4,5,6]]) (.seq (.reg true [oo_ 11 (.fa 0 (.t 5)) [],oo_ 12 (.load false 1 (.t 11)) [0],oo_ 13 (.fa 0 (.t 6)) [],oo_ 14 (.load false 1 (.t 13)) [2],oo_ 15 (.call 318 [(.t 12),(.t 14)]) [1,3],oo_ 16
 (.fa 1 (.t 5)) [],oo_ 17 (.load false 1 (.t 16)) [5],oo_ 18 (.fa 1 (.t 6)) [],oo_ 19 (.load false 1 (.t 18)) [7],oo_ 20 (.call 318 [(.t 17),(.t 19)]) [6,8,4],oo_ 21 (.fa 2 (.t 5)) [],oo_ 22 (.load false 1 (.t 21))
 [10],oo_ 23 (.call 319 [(.t 22)]) [11,9],oo_ 24 (.fa 2 (.t 6)) [],oo_ 25 (.load false 1 (.t 24)) [13],oo_ 26 (.call 319 [(.t 25)]) [14,12],oo_ 27 (.call 318 [(.t 23),(.t 26)]) [12,15,15],oo_ 28 (.bsl 3 1 3 [(.int .i64
 0),(.int .i64 0),(.int .i64 0)] [(0,1,(.t 15)),(1,1,(.t 20)),(2,1,(.t 27))]) [4,9,16],oo_ 29 (.call 317 [(.t 28)]) [17,16],om_ 4 29 [18,18,0,1,2,3,4,5,6,7,8,9,10,11,12,13,14,15,16,17,18]]) .ret)))
theorem o_c1:fnOf Tryz.prog o_bz=some (o_c0,[.t 4],30,false):=by kernel_rfl

abbrev o_c2:FuncId:=317
def o_c3:C:=(.seq (.reg false [oo_ 2 (.mv (.d (.int .i64 0))) []]) (.seq (.reg false [oo_ 3 (.mv (.d (.int .i64 0))) []]) (.seq (.seq (.reg false [om_ 6 0 [],oo_ 7 (.len (.t 6)) [0],oo_ 8 (.mv (.d (.int .i64 0))) []]) (.block 0
 (.loop (.seq (.reg false [oo_ 9 (.bin .lss (.t 8) (.t 7)) []]) (.seq (.cond (.t 9) .skip (.exit 0)) (.seq (.block 1 (.seq (.reg false [oo_ 10 (.ix 1 (.t 6) (.t 8)) [],oo_ 11 (.load false 1 (.t 10)) [0],om_ 5 11
 [1,0,1]]) (.seq (.reg false [om_ 12 5 [],om_ 13 3 [],oo_ 14 (.bin .neq (.t 12) (.t 13)) [0,1]]) (.cond (.t 14) (.seq (.reg false [om_ 15 5 [],om_ 2 15 [0,0]]) .ret) .skip)))) (.reg false [oo_ 16 (.bin .add (.t 8) (.d
 (.int .i64 1))) [],om_ 8 16 [0]]))))))) (.seq (.reg false [om_ 17 3 [],om_ 2 17 [0,0]]) .ret))))
theorem o_c4:fnOf Tryz.prog o_c2=some (o_c3,[.t 2],18,false):=by kernel_rfl

abbrev o_c5:FuncId:=51
def o_c6:C:=(.seq (.reg false [oo_ 1 (.box 46 (.t 0)) [],⟨some 2,.mv (.d (.str ⟨#[]⟩)),none,[]⟩]) (.seq (.seq (.reg false [oo_ 8 (.load true 1 (.t 1)) [],oo_ 9 (.call 144 [(.t 8)]) [0]]) (.cond (.t 9) (.seq (.reg false [⟨some 2,.mv
 (.d (.str ⟨#[48]⟩)),none,[]⟩]) .ret) .skip)) (.seq (.reg false [⟨some 3,.mv (.d (.str ⟨#[]⟩)),none,[]⟩]) (.seq (.seq (.reg false [oo_ 10 (.fa 0 (.t 1)) [],oo_ 11 (.load false 1 (.t 10)) [0],om_ 4 11 [1,0,1]]) (.block 0
 (.loop (.seq (.seq (.reg false [om_ 12 4 [],oo_ 13 (.len (.t 12)) [0],oo_ 14 (.bin .gtr (.t 13) (.d (.int .i64 0))) [1]]) (.cond (.t 14) .skip (.exit 0))) (.block 1 (.seq (.reg false [om_ 16 4 [],oo_ 17 (.call 146 [(.t
 16),(.d (.int .u64 1000000000000000000))]) [0],om_ 15 17 [1],oo_ 18 (.ext (.t 15) 0) [2],oo_ 19 (.ext (.t 15) 1) [2],om_ 5 18 [3,1,0,1,2,3],om_ 6 19 [4,5,0,1,2,3,4,5]]) (.seq (.reg false [om_ 20 5 [],oo_ 21 (.call 147
 [(.t 20)]) [0],oo_ 22 (.fld false 0 1 (.t 21)) [1],om_ 4 22 [2,1,0,1,2]]) (.seq (.reg false [om_ 23 6 [],oo_ 24 (.call 148 [(.t 23),(.d (.int .i64 10))]) [0],om_ 7 24 [1,1,0,1]]) (.seq (.seq (.reg false [om_ 25 4 [],oo_
 26 (.len (.t 25)) [0],oo_ 27 (.bin .gtr (.t 26) (.d (.int .i64 0))) [1]]) (.cond (.t 27) (.reg false [om_ 28 7 [],oo_ 29 (.lens (.t 28)) [0],oo_ 30 (.bin .sub (.d (.int .i64 18)) (.t 29)) [1],⟨some 31,.call 149 [(.d
 (.str ⟨#[48]⟩)),(.t 30)],none,[2]⟩,om_ 32 7 [],oo_ 33 (.bin .add (.t 31) (.t 32)) [3,4],om_ 7 33 [5,3,0,1,2,3,4,5]]) .skip)) (.reg false [om_ 34 7 [],om_ 35 3 [],oo_ 36 (.bin .add (.t 34) (.t 35)) [0,1],om_ 3 36
 [2,0,1,2]])))))))))) (.seq (.reg false [om_ 37 3 [],om_ 2 37 [0,0]]) .ret)))))
theorem o_c7:fnOf Tryz.prog o_c5=some (o_c6,[.t 2],38,false):=by kernel_rfl

abbrev o_c8:FuncId:=148
def o_c9:C:=(.seq (.reg false [⟨some 4,.mv (.d (.str ⟨#[]⟩)),none,[]⟩]) (.seq (.reg false [om_ 5 0 [],om_ 6 1 [],oo_ 7 (.call 256 [(.t 5),(.t 6)]) [0,1],om_ 4 7 [2,2,0,1,2]]) .ret))
theorem o_ca:fnOf Tryz.prog o_c8=some (o_c9,[.t 4],8,false):=by kernel_rfl

abbrev o_cb:FuncId:=256
def o_cc:C:=(.seq (.reg false [⟨some 4,.mv (.d (.str ⟨#[]⟩)),none,[]⟩]) (.seq (.seq (.reg false [om_ 9 1 [],oo_ 10 (.bin .eql (.t 9) (.d (.int .i64 10))) [0]]) (.cond (.t 10) (.seq (.seq (.reg false [om_ 11 0 [],oo_ 12 (.bin .lss
 (.t 11) (.d (.int .u64 100))) [0]]) (.cond (.t 12) (.seq (.reg false [om_ 13 0 [],oo_ 14 (.conv .i64 (.t 13)) [0],oo_ 15 (.call 346 [(.t 14)]) [1],om_ 4 15 [2,2,0,1,2]]) .ret) .skip)) (.seq (.reg false [oo_ 5 (.new 480
 [(.int .u8 0),(.int .u8 0),(.int .u8 0),(.int .u8 0),(.int .u8 0),(.int .u8 0),(.int .u8 0),(.int .u8 0),(.int .u8 0),(.int .u8 0),(.int .u8 0),(.int .u8 0),(.int .u8 0),(.int .u8 0),(.int .u8 0),(.int .u8 0),(.int .u8
 0),(.int .u8 0),(.int .u8 0),(.int .u8 0),(.int .u8 0),(.int .u8 0),(.int .u8 0),(.int .u8 0)]) []]) (.seq (.reg false [om_ 16 0 [],oo_ 17 (.call 347 [(.t 16)]) [0],om_ 6 17 [1,1,0,1]]) (.seq (.reg false [om_ 18 6
 [],oo_ 19 (.sla 24 1 (.t 5) none (some (.t 18))) [0],om_ 20 0 [],oo_ 21 (.call 348 [(.t 19),(.t 20)]) [1,2]]) (.seq (.reg false [om_ 22 6 [],oo_ 23 (.sla 24 1 (.t 5) none (some (.t 22))) [0],oo_ 24 (.bstr (.t 23))
 [1],om_ 4 24 [2,0,1,2]]) .ret))))) .skip)) (.seq (.reg false [om_ 26 0 [],om_ 27 1 [],oo_ 28 (.call 349 [(.d .nilsl),(.t 26),(.t 27),(.d (.bool false)),(.d (.bool false))]) [0,1],om_ 25 28 [2],oo_ 29 (.ext (.t 25) 0)
 [3],oo_ 30 (.ext (.t 25) 1) [3],om_ 7 29 [4,2,0,1,2,3,4],om_ 8 30 [5,6,0,1,2,3,4,5,6]]) (.seq (.reg false [om_ 31 8 [],om_ 4 31 [0,0]]) .ret))))
theorem o_cd:fnOf Tryz.prog o_cb=some (o_cc,[.t 4],32,false):=by kernel_rfl

abbrev o_ce:FuncId:=346
def o_cf:C:=(.seq (.reg false [⟨some 2,.mv (.d (.str ⟨#[]⟩)),none,[]⟩]) (.seq (.seq (.reg false [om_ 3 0 [],oo_ 4 (.bin .lss (.t 3) (.d (.int .i64 10))) [0]]) (.cond (.t 4) (.seq (.reg false [om_ 5 0 [],om_ 6 0 [],oo_ 7 (.bin .add
 (.t 6) (.d (.int .i64 1))) [1],⟨some 8,.sstr (.d (.str ⟨#[48,49,50,51,52,53,54,55,56,57,97,98,99,100,101,102,103,104,105,106,107,108,109,110,111,112,113,114,115,116,117,118,119,120,121,122]⟩)) (some (.t 5)) (some (.t
 7)),none,[0,2]⟩,om_ 2 8 [3,0,1,2,3]]) .ret) .skip)) (.seq (.reg false [om_ 9 0 [],oo_ 10 (.bin .mul (.t 9) (.d (.int .i64 2))) [0],om_ 11 0 [],oo_ 12 (.bin .mul (.t 11) (.d (.int .i64 2))) [2],oo_ 13 (.bin .add (.t 12)
 (.d (.int .i64 2))) [3],⟨some 14,.sstr (.d (.str
 ⟨#[48,48,48,49,48,50,48,51,48,52,48,53,48,54,48,55,48,56,48,57,49,48,49,49,49,50,49,51,49,52,49,53,49,54,49,55,49,56,49,57,50,48,50,49,50,50,50,51,50,52,50,53,50,54,50,55,50,56,50,57,51,48,51,49,51,50,51,51,51,52,51,53,51,54,51,55,51,56,51,57,52,48,52,49,52,50,52,51,52,52,52,53,52,54,52,55,52,56,52,57,53,48,53,49,53,50,53,51,53,52,53,53,53,54,53,55,53,56,53,57,54,48,54,49,54,50,54,51,54,52,54,53,54,54,54,55,54,56,54,57,55,48,55,49,55,50,55,51,55,52,55,53,55,54,55,55,55,56,55,57,56,48,56,49,56,50,56,51,56,52,56,53,56,54,56,55,56,56,56,57,57,48,57,49,57,50,57,51,57,52,57,53,57,54,57,55,57,56,57,57]⟩)) (some (.t 10)) (some (.t 13)),none,[1,4]⟩,om_ 2 14 [5,0,1,2,3,4,5]]) .ret)))
theorem o_cg:fnOf Tryz.prog o_ce=some (o_cf,[.t 2],15,false):=by kernel_rfl

abbrev o_ch:FuncId:=264
def o_ci:C:=(.seq (.reg false [oo_ 2 (.box 31 (.t 0)) [],oo_ 3 (.mv (.d (.bool false))) []]) (.seq (.reg false [oo_ 4 (.load true 3 (.t 1)) [],oo_ 5 (.load true 3 (.t 2)) [],oo_ 6 (.call 122 [(.t 4),(.t 5)]) [0,1],oo_ 7 (.un .not
 (.t 6)) [2],om_ 3 7 [3,2,0,1,2,3]]) .ret))
theorem o_cj:fnOf Tryz.prog o_ch=some (o_ci,[.t 3],8,false):=by kernel_rfl

abbrev o_ck:FuncId:=152
def o_cl:C:=(.seq (.reg false [oo_ 1 (.box 31 (.t 0)) [],oo_ 2 (.mv .bad) []]) (.seq (.reg true [oo_ 3 (.mkm 1000391) [],oo_ 4 (.load true 3 (.t 1)) [],oo_ 5 (.call 90 [(.d (.int .i64 1))]) [],on_ (.mput 1000391 [0,0,1] 3 true (.t
 3) (.t 4) (.t 5)) [0,1,2],om_ 6 3 [0,1,2,3],om_ 2 6 [4,2,0,1,2,3,4]]) .ret))
theorem o_cm:fnOf Tryz.prog o_ck=some (o_cl,[.t 2],7,false):=by kernel_rfl

abbrev o_cn:FuncId:=190
def o_co:C:=(.seq (.reg false [oo_ 2 (.box 50 (.t 0)) [],oo_ 3 (.box 50 (.t 1)) [],oo_ 4 (.new 50 [.nilsl,(.bool false),.nilsl]) []]) (.seq (.reg true [oo_ 5 (.fa 0 (.t 2)) [],oo_ 6 (.load true 2 (.t 5)) [0],oo_ 7 (.fa 0 (.t 3))
 [],oo_ 8 (.load true 2 (.t 7)) [2],oo_ 9 (.call 272 [(.t 6),(.t 8)]) [1,3],oo_ 10 (.load true 3 (.t 2)) [],oo_ 11 (.call 50 [(.t 10)]) [5,4],oo_ 12 (.load true 3 (.t 3)) [],oo_ 13 (.call 50 [(.t 12)]) [7,6],oo_ 14
 (.call 276 [(.t 11),(.t 13)]) [6,8,8],oo_ 15 (.call 274 [(.t 9),(.t 14)]) [4,9,9],on_ (.store 3 (.t 4) (.t 15)) [10,10,0,1,2,3,4,5,6,7,8,9,10]]) .ret))
theorem o_cp:fnOf Tryz.prog o_cn=some (o_co,[.cell 4 true 3],16,false):=by kernel_rfl

abbrev o_cq:FuncId:=57
def o_cr:C:=(.seq (.reg false [oo_ 4 (.box 37 (.t 1)) [],oo_ 5 (.box 50 (.t 2)) []]) (.seq (.seq (.reg false [oo_ 9 (.load true 3 (.t 5)) [],oo_ 10 (.build [.nilsl,(.bool false),.nilsl] []) [],oo_ 11 (.call 156 [(.t 9),(.t 10)])
 [0,1],oo_ 12 (.bin .eql (.t 11) (.d (.int .i64 0))) [2]]) (.cond (.t 12) .ret .skip)) (.seq (.reg true [om_ 13 0 [],oo_ 14 (.chk (.t 13)) [0],oo_ 15 (.fa 1 (.t 14)) [1],oo_ 16 (.load false 1 (.t 15)) [2],oo_ 17 (.load
 true 11 (.t 4)) [],oo_ 18 (.callv (.t 16) [(.t 17)]) [3,4],om_ 6 18 [5,5,0,1,2,3,4,5]]) (.seq (.seq (.reg false [om_ 20 0 [],oo_ 21 (.chk (.t 20)) [0],oo_ 22 (.fa 2 (.t 21)) [1],oo_ 23 (.load false 1 (.t 22)) [2],om_ 24
 6 [],oo_ 25 (.mgS (.t 23) (.t 24)) [3,4],om_ 19 25 [5],oo_ 26 (.ext (.t 19) 0) [6],oo_ 27 (.ext (.t 19) 1) [6],om_ 7 26 [7,0,1,2,3,4,5,6,7],om_ 8 27 [8,9,0,1,2,3,4,5,6,7,8,9]]) (.seq (.reg false [om_ 28 8 []]) (.cond
 (.t 28) (.seq (.reg true [om_ 29 0 [],oo_ 30 (.chk (.t 29)) [0],oo_ 31 (.fa 0 (.t 30)) [1],oo_ 32 (.load false 1 (.t 31)) [2],om_ 33 7 [],om_ 34 0 [],oo_ 35 (.chk (.t 34)) [5],oo_ 36 (.fa 0 (.t 35)) [6],oo_ 37 (.load
 false 1 (.t 36)) [7],om_ 38 7 [],oo_ 39 (.ix 14 (.t 37) (.t 38)) [8,9],oo_ 40 (.fa 11 (.t 39)) [10],oo_ 41 (.load true 3 (.t 40)) [11],oo_ 42 (.load true 3 (.t 5)) [],oo_ 43 (.call 157 [(.t 41),(.t 42)]) [12,13],oo_ 44
 (.ix 14 (.t 32) (.t 33)) [3,4,0,1,2,3,4,5,6,7,8,9,10,11,12,13,14],oo_ 45 (.fa 11 (.t 44)) [15,0,1,2,3,4,5,6,7,8,9,10,11,12,13,14],on_ (.store 3 (.t 45) (.t 43)) [16,14,14,0,1,2,3,4,5,6,7,8,9,10,11,12,13,14]]) .ret)
 .skip))) (.seq (.reg true [om_ 46 0 [],oo_ 47 (.chk (.t 46)) [0],oo_ 48 (.fa 2 (.t 47)) [1],oo_ 49 (.load false 1 (.t 48)) [2],om_ 50 6 [],om_ 51 0 [],oo_ 52 (.chk (.t 51)) [5],oo_ 53 (.fa 0 (.t 52)) [6],oo_ 54 (.load
 false 1 (.t 53)) [7],oo_ 55 (.len (.t 54)) [8],on_ (.mpS (.t 49) (.t 50) (.t 55)) [3,4,9,0,1,2,3,4,5,6,7,8,9]]) (.reg true [om_ 56 0 [],om_ 57 0 [],oo_ 58 (.chk (.t 57)) [1],oo_ 59 (.fa 0 (.t 58)) [2],oo_ 60 (.load
 false 1 (.t 59)) [3],oo_ 61 (.load true 11 (.t 4)) [],oo_ 62 (.load true 3 (.t 5)) [],oo_ 63 (.build [(.int .i64 0),(.int .i64 0),(.int .i64 0),(.int .i64 0),(.int .i64 0),(.int .i64 0),(.bool
 false),.nilp,.nilp,.nilp,.nilp,.nilsl,(.bool false),.nilsl] [(0,11,(.t 61)),(11,3,(.t 62))]) [5,6],oo_ 64 (.bsl 87 14 1 [(.int .i64 0),(.int .i64 0),(.int .i64 0),(.int .i64 0),(.int .i64 0),(.int .i64 0),(.bool
 false),.nilp,.nilp,.nilp,.nilp,.nilsl,(.bool false),.nilsl] [(0,14,(.t 63))]) [7],oo_ 65 (.app 87 14 144 (.t 60) (.t 64)) [4,8],oo_ 66 (.chk (.t 56)) [0,0,1,2,3,4,5,6,7,8,9],oo_ 67 (.fa 0 (.t 66))
 [10,0,1,2,3,4,5,6,7,8,9],on_ (.store 1 (.t 67) (.t 65)) [11,9,9,0,1,2,3,4,5,6,7,8,9]]))))))
theorem o_cs:fnOf Tryz.prog o_cq=some (o_cr,[],68,false):=by kernel_rfl

abbrev o_ct:FuncId:=56
def o_cu:C:=(.seq (.reg false [oo_ 1 (.box 37 (.t 0)) [],⟨some 2,.mv (.d (.str ⟨#[]⟩)),none,[]⟩]) (.seq (.reg false [oo_ 6 (.load true 11 (.t 1)) [],oo_ 7 (.call 61 [(.t 6)]) [0],om_ 5 7 [1],oo_ 8 (.ext (.t 5) 0) [2],oo_ 9 (.ext
 (.t 5) 1) [2],om_ 3 8 [3,1,0,1,2,3],om_ 4 9 [4,5,0,1,2,3,4,5]]) (.seq (.reg false [om_ 10 3 [],oo_ 11 (.bstr (.t 10)) [0],om_ 2 11 [1,0,1]]) .ret)))
theorem o_cv:fnOf Tryz.prog o_ct=some (o_cu,[.t 2],12,false):=by kernel_rfl

abbrev o_cw:FuncId:=58
def o_cx:C:=(.seq (.reg false [oo_ 2 (.mv (.d (.bool false))) []]) (.seq (.reg false [om_ 3 0 [],oo_ 4 (.chk (.t 3)) [0],oo_ 5 (.fa 0 (.t 4)) [1],oo_ 6 (.load false 1 (.t 5)) [2],oo_ 7 (.len (.t 6)) [3],oo_ 8 (.bin .gtr (.t 7) (.d
 (.int .i64 256))) [4],om_ 2 8 [5,0,1,2,3,4,5]]) .ret))
theorem o_cy:fnOf Tryz.prog o_cw=some (o_cx,[.t 2],9,false):=by kernel_rfl

abbrev o_cz:FuncId:=167
def o_d0:C:=(.seq (.reg false [oo_ 4 (.mv (.d (.int .i64 0))) []]) (.seq (.reg false [om_ 7 0 [],oo_ 8 (.call 288 [(.t 7)]) [0],om_ 5 8 [1,1,0,1]]) (.seq (.reg false [om_ 9 1 [],oo_ 10 (.call 288 [(.t 9)]) [0],om_ 6 10 [1,1,0,1]])
 (.seq (.seq (.reg false [om_ 11 5 []]) (.cond (.t 11) (.seq (.seq (.reg false [om_ 12 6 []]) (.cond (.t 12) (.seq (.reg false [oo_ 4 (.mv (.d (.int .i64 0))) []]) .ret) .skip)) (.seq (.reg false [oo_ 4 (.mv (.d (.int
 .i64 (-1)))) []]) .ret)) .skip)) (.seq (.seq (.reg false [om_ 13 6 []]) (.cond (.t 13) (.seq (.reg false [oo_ 4 (.mv (.d (.int .i64 1))) []]) .ret) .skip)) (.seq (.seq (.reg false [om_ 14 0 [],om_ 15 1 [],oo_ 16 (.bin
 .lss (.t 14) (.t 15)) [0,1]]) (.cond (.t 16) (.seq (.reg false [oo_ 4 (.mv (.d (.int .i64 (-1)))) []]) .ret) .skip)) (.seq (.seq (.reg false [om_ 17 0 [],om_ 18 1 [],oo_ 19 (.bin .gtr (.t 17) (.t 18)) [0,1]]) (.cond (.t
 19) (.seq (.reg false [oo_ 4 (.mv (.d (.int .i64 1))) []]) .ret) .skip)) (.seq (.reg false [oo_ 4 (.mv (.d (.int .i64 0))) []]) .ret))))))))
theorem o_d1:fnOf Tryz.prog o_cz=some (o_d0,[.t 4],20,false):=by kernel_rfl

abbrev o_d2:FuncId:=150
def o_d3:C:=(.seq (.reg false [oo_ 2 (.box 29 (.t 0)) [],oo_ 4 (.mv (.d (.int .i64 0))) []]) (.seq (.seq (.reg false [oo_ 6 (.load true 3 (.t 2)) [],oo_ 7 (.call 121 [(.t 6)]) [0],om_ 5 7 [1,1,0,1]]) (.seq (.reg false [om_ 8 5
 [],oo_ 9 (.bin .neq (.t 8) (.d (.int .i64 0))) [0]]) (.cond (.t 9) (.seq (.reg false [om_ 10 5 [],om_ 4 10 [0,0]]) .ret) .skip))) (.seq (.seq (.reg false [om_ 11 1 [],oo_ 12 (.mkf (.func 264) [(.t 2)]) [],oo_ 13 (.call
 263 [(.t 11),(.t 12)]) [0,1]]) (.cond (.t 13) (.seq (.reg false [oo_ 4 (.mv (.d (.int .i64 2))) []]) .ret) .skip)) (.seq (.reg false [oo_ 4 (.mv (.d (.int .i64 0))) []]) .ret))))
theorem o_d4:fnOf Tryz.prog o_d2=some (o_d3,[.t 4],14,false):=by kernel_rfl

abbrev o_d5:FuncId:=263
def o_d6:C:=(.seq (.reg false [oo_ 4 (.mv (.d (.bool false))) []]) (.seq (.reg false [om_ 5 0 [],om_ 6 1 [],oo_ 7 (.call 355 [(.t 5),(.t 6)]) [0,1],oo_ 8 (.bin .geq (.t 7) (.d (.int .i64 0))) [2],om_ 4 8 [3,2,0,1,2,3]]) .ret))
theorem o_d7:fnOf Tryz.prog o_d5=some (o_d6,[.t 4],9,false):=by kernel_rfl

abbrev o_d8:FuncId:=355
def o_d9:C:=(.seq (.reg false [oo_ 4 (.mv (.d (.int .i64 0))) []]) (.seq (.seq (.reg false [om_ 6 0 [],oo_ 7 (.len (.t 6)) [0],oo_ 8 (.mv (.d (.int .i64 0))) []]) (.block 0 (.loop (.seq (.reg false [oo_ 9 (.bin .lss (.t 8) (.t 7))
 []]) (.seq (.cond (.t 9) .skip (.exit 0)) (.seq (.block 1 (.seq (.reg false [om_ 10 8 [],om_ 5 10 [0,0]]) (.seq (.reg false [om_ 11 1 [],om_ 12 0 [],om_ 13 5 [],oo_ 14 (.ix 3 (.t 12) (.t 13)) [1,2],oo_ 15 (.load true 3
 (.t 14)) [3],oo_ 16 (.callv (.t 11) [(.t 15)]) [0,4]]) (.cond (.t 16) (.seq (.reg false [om_ 17 5 [],om_ 4 17 [0,0]]) .ret) .skip)))) (.reg false [oo_ 18 (.bin .add (.t 8) (.d (.int .i64 1))) [],om_ 8 18 [0]])))))))
 (.seq (.reg false [oo_ 4 (.mv (.d (.int .i64 (-1)))) []]) .ret)))
theorem o_da:fnOf Tryz.prog o_d8=some (o_d9,[.t 4],19,false):=by kernel_rfl

abbrev o_db:FuncId:=151
def o_dc:C:=(.seq (.reg false [oo_ 1 (.box 29 (.t 0)) [],oo_ 2 (.mv (.d (.int .i64 0))) []]) (.seq (.seq (.reg false [oo_ 3 (.fa 0 (.t 1)) [],oo_ 4 (.load false 1 (.t 3)) [0],oo_ 5 (.bin .eql (.t 4) (.d (.int .i64 4))) [1]]) (.cond
 (.t 5) (.seq (.reg false [oo_ 6 (.fa 1 (.t 1)) [],oo_ 7 (.load false 1 (.t 6)) [0],oo_ 8 (.bin .add (.t 7) (.d (.int .i64 1))) [1],oo_ 9 (.fa 2 (.t 1)) [],oo_ 10 (.load false 1 (.t 9)) [3],oo_ 11 (.bin .add (.t 10) (.d
 (.int .i64 1))) [4],oo_ 12 (.bin .mul (.t 8) (.t 11)) [2,5],om_ 2 12 [6,0,1,2,3,4,5,6]]) .ret) .skip)) (.seq (.reg false [oo_ 13 (.fa 2 (.t 1)) [],oo_ 14 (.load false 1 (.t 13)) [0],oo_ 15 (.bin .shl (.d (.int .i64 1))
 (.t 14)) [1],om_ 2 15 [2,0,1,2]]) .ret)))
theorem o_dd:fnOf Tryz.prog o_db=some (o_dc,[.t 2],16,false):=by kernel_rfl

abbrev o_de:FuncId:=153
def o_df:C:=(.seq (.reg false [oo_ 4 (.mv .bad) []]) (.seq (.reg false [oo_ 10 (.mkm 1000391) [],om_ 5 10 [0,0]]) (.seq (.seq (.reg false [om_ 11 0 [],oo_ 12 (.call 102 [(.t 11)]) [0],oo_ 13 (.len (.t 12)) [1],oo_ 14 (.mv (.d (.int
 .i64 0))) []]) (.block 0 (.loop (.seq (.reg false [oo_ 15 (.bin .lss (.t 14) (.t 13)) []]) (.seq (.cond (.t 15) .skip (.exit 0)) (.seq (.block 1 (.seq (.reg false [oo_ 16 (.ix 6 (.t 12) (.t 14)) [],oo_ 17 (.load true 6
 (.t 16)) [0],oo_ 7 (.new 154 [(.int .i64 0),(.int .i64 0),(.bool false),.nilsl,(.bool false),.nilsl]) [],on_ (.store 6 (.t 7) (.t 17)) [2,1,0,1,2]]) (.seq (.reg false [om_ 18 1 [],oo_ 19 (.fa 0 (.t 7)) [],oo_ 20 (.load
 true 3 (.t 19)) [1],oo_ 21 (.callv (.t 18) [(.t 20)]) [0,2],oo_ 22 (.call 102 [(.t 21)]) [3,3],oo_ 23 (.len (.t 22)) [4],oo_ 24 (.mv (.d (.int .i64 0))) []]) (.block 2 (.loop (.seq (.reg false [oo_ 25 (.bin .lss (.t 24)
 (.t 23)) []]) (.seq (.cond (.t 25) .skip (.exit 2)) (.seq (.block 3 (.seq (.reg false [oo_ 26 (.ix 6 (.t 22) (.t 24)) [],oo_ 27 (.load true 6 (.t 26)) [0],oo_ 9 (.new 154 [(.int .i64 0),(.int .i64 0),(.bool
 false),.nilsl,(.bool false),.nilsl]) [],on_ (.store 6 (.t 9) (.t 27)) [2,1,0,1,2]]) (.reg true [om_ 28 5 [],oo_ 29 (.fa 0 (.t 9)) [],oo_ 30 (.load true 3 (.t 29)) [1],oo_ 31 (.fa 3 (.t 7)) [],oo_ 32 (.load true 3 (.t
 31)) [3],oo_ 33 (.fa 3 (.t 9)) [],oo_ 34 (.load true 3 (.t 33)) [5],oo_ 35 (.call 190 [(.t 32),(.t 34)]) [4,6],oo_ 36 (.call 214 [(.t 28),(.t 30),(.t 35)]) [0,2,7,7]]))) (.reg false [oo_ 37 (.bin .add (.t 24) (.d (.int
 .i64 1))) [],om_ 24 37 [0]]))))))))) (.reg false [oo_ 38 (.bin .add (.t 14) (.d (.int .i64 1))) [],om_ 14 38 [0]]))))))) (.seq (.reg false [om_ 39 5 [],om_ 4 39 [0,0]]) .ret))))
theorem o_dg:fnOf Tryz.prog o_de=some (o_df,[.t 4],40,false):=by kernel_rfl

abbrev o_dh:FuncId:=268
def o_di:C:=(.seq (.reg false [oo_ 1 (.box 29 (.t 0)) [],oo_ 2 (.new 126 [(.int .i64 0),(.int .i64 0),(.int .i64 0)]) []]) (.seq (.reg false [oo_ 3 (.fa 0 (.t 1)) [],oo_ 4 (.load false 1 (.t 3)) [0],oo_ 5 (.fa 1 (.t 1)) [],oo_ 6
 (.load false 1 (.t 5)) [2],oo_ 7 (.fa 2 (.t 1)) [],oo_ 8 (.load false 1 (.t 7)) [4],oo_ 9 (.build [(.int .i64 0),(.int .i64 0),(.int .i64 0)] [(0,1,(.t 4)),(1,1,(.t 6)),(2,1,(.t 8))]) [1,3,5],on_ (.store 3 (.t 2) (.t
 9)) [6,0,1,2,3,4,5,6]]) .ret))
theorem o_dj:fnOf Tryz.prog o_dh=some (o_di,[.cell 2 true 3],10,false):=by kernel_rfl

abbrev o_dk:FuncId:=126
def o_dl:C:=(.seq (.reg false [oo_ 2 (.box 126 (.t 0)) [],oo_ 4 (.mv (.d (.int .i64 0))) []]) (.seq (.seq (.reg false [oo_ 8 (.load true 3 (.t 2)) [],oo_ 9 (.call 223 [(.t 8)]) [0],om_ 5 9 [1,1,0,1]]) (.seq (.reg false [om_ 10 5
 [],oo_ 11 (.bin .neq (.t 10) (.d (.int .i64 0))) [0]]) (.cond (.t 11) (.seq (.reg false [om_ 12 5 [],om_ 4 12 [0,0]]) .ret) .skip))) (.seq (.seq (.reg false [om_ 13 1 [],oo_ 14 (.len (.t 13)) [0],oo_ 15 (.mv (.d (.int
 .i64 0))) []]) (.block 0 (.loop (.seq (.reg false [oo_ 16 (.bin .lss (.t 15) (.t 14)) []]) (.seq (.cond (.t 16) .skip (.exit 0)) (.seq (.block 1 (.seq (.reg false [oo_ 17 (.ix 1 (.t 13) (.t 15)) [],oo_ 18 (.load false 1
 (.t 17)) [0],om_ 7 18 [1,0,1]]) (.seq (.reg false [om_ 19 7 [],oo_ 20 (.bin .lss (.t 19) (.d (.int .i64 0))) [0],om_ 21 20 [1],og_ 22 (.mv (.t 7)) 21 false [2],og_ 23 (.load true 3 (.t 2)) 21 false [2],og_ 24 (.call 225
 [(.t 23)]) 21 false [4,2,2],og_ 25 (.bin .gtr (.t 22) (.t 24)) 21 false [3,5,2],oo_ 26 (.pick (.t 21) (.d (.bool true)) (.t 25)) [2,6]]) (.cond (.t 26) (.seq (.reg false [oo_ 4 (.mv (.d (.int .i64 2))) []]) .ret)
 .skip)))) (.reg false [oo_ 27 (.bin .add (.t 15) (.d (.int .i64 1))) [],om_ 15 27 [0]]))))))) (.seq (.reg false [oo_ 4 (.mv (.d (.int .i64 0))) []]) .ret))))
theorem o_dm:fnOf Tryz.prog o_dk=some (o_dl,[.t 4],28,false):=by kernel_rfl

abbrev o_dn:FuncId:=20
def o_do:C:=(.seq (.reg false [oo_ 3 (.box 29 (.t 0)) [],oo_ 6 (.mv (.d .nilsl)) [],oo_ 7 (.mv (.d (.int .i64 0))) [1]]) (.seq (.reg false [oo_ 8 (.mv (.d .nilsl)) []]) (.seq (.seq (.reg false [om_ 11 1 [],oo_ 12 (.len (.t 11))
 [0],oo_ 13 (.mv (.d (.int .i64 0))) []]) (.block 0 (.loop (.seq (.reg false [oo_ 14 (.bin .lss (.t 13) (.t 12)) []]) (.seq (.cond (.t 14) .skip (.exit 0)) (.seq (.block 1 (.seq (.reg false [oo_ 15 (.ix 6 (.t 11) (.t
 13)) [],oo_ 16 (.load true 6 (.t 15)) [0],oo_ 10 (.new 154 [(.int .i64 0),(.int .i64 0),(.bool false),.nilsl,(.bool false),.nilsl]) [],on_ (.store 6 (.t 10) (.t 16)) [2,1,0,1,2]]) (.reg false [om_ 17 8 [],oo_ 18 (.load
 true 3 (.t 3)) [],oo_ 19 (.fa 0 (.t 10)) [],oo_ 20 (.load true 3 (.t 19)) [2],oo_ 21 (.build [(.int .i64 0),(.int .i64 0),(.int .i64 0),(.int .i64 0),(.int .i64 0),(.int .i64 0),(.bool false),.nilp,.nilp,.nilp,.nilp]
 [(0,1,(.d (.int .i64 1))),(1,3,(.t 18)),(4,3,(.t 20))]) [1,3],oo_ 22 (.fa 3 (.t 10)) [],oo_ 23 (.load true 3 (.t 22)) [5],oo_ 24 (.build [(.int .i64 0),(.int .i64 0),(.int .i64 0),(.int .i64 0),(.int .i64 0),(.int .i64
 0),(.bool false),.nilp,.nilp,.nilp,.nilp,.nilsl,(.bool false),.nilsl] [(0,11,(.t 21)),(11,3,(.t 23))]) [4,6],oo_ 25 (.bsl 87 14 1 [(.int .i64 0),(.int .i64 0),(.int .i64 0),(.int .i64 0),(.int .i64 0),(.int .i64
 0),(.bool false),.nilp,.nilp,.nilp,.nilp,.nilsl,(.bool false),.nilsl] [(0,14,(.t 24))]) [7],oo_ 26 (.app 87 14 144 (.t 17) (.t 25)) [0,8],om_ 8 26 [9,9,0,1,2,3,4,5,6,7,8,9]]))) (.reg false [oo_ 27 (.bin .add (.t 13) (.d
 (.int .i64 1))) [],om_ 13 27 [0]]))))))) (.seq (.reg false [om_ 28 8 [],om_ 29 2 [],om_ 6 28 [0,0],om_ 7 29 [1,2,0,1,2]]) .ret))))
theorem o_dp:fnOf Tryz.prog o_dn=some (o_do,[.t 6,.t 7],30,false):=by kernel_rfl

abbrev o_dq:FuncId:=19
def o_dr:C:=(.seq (.reg false [oo_ 4 (.mv (.d .nilsl)) [],oo_ 5 (.mv (.d (.int .i64 0))) [0]]) (.seq (.seq (.reg false [om_ 12 1 [],oo_ 13 (.bin .neq (.t 12) (.d (.int .i64 0))) [0]]) (.cond (.t 13) (.seq (.reg false [om_ 14 1
 [],oo_ 4 (.mv (.d .nilsl)) [],om_ 5 14 [0,1,0,1]]) .ret) .skip)) (.seq (.reg false [oo_ 15 (.call 55 [(.fn 56)]) [],om_ 6 15 [0,0,0]]) (.seq (.seq (.reg false [om_ 16 0 [],oo_ 17 (.len (.t 16)) [0],oo_ 18 (.mv (.d (.int
 .i64 0))) []]) (.block 0 (.loop (.seq (.reg false [oo_ 19 (.bin .lss (.t 18) (.t 17)) []]) (.seq (.cond (.t 19) .skip (.exit 0)) (.seq (.block 1 (.seq (.reg false [oo_ 20 (.ix 14 (.t 16) (.t 18)) [],oo_ 21 (.load true
 14 (.t 20)) [0],oo_ 8 (.new 87 [(.int .i64 0),(.int .i64 0),(.int .i64 0),(.int .i64 0),(.int .i64 0),(.int .i64 0),(.bool false),.nilp,.nilp,.nilp,.nilp,.nilsl,(.bool false),.nilsl]) [],on_ (.store 14 (.t 8) (.t 21))
 [2,1,0,1,2]]) (.seq (.reg false [om_ 22 6 [],oo_ 23 (.fa 0 (.t 8)) [],oo_ 24 (.load true 11 (.t 23)) [1],oo_ 25 (.fa 11 (.t 8)) [],oo_ 26 (.load true 3 (.t 25)) [3],oo_ 27 (.call 57 [(.t 22),(.t 24),(.t 26)]) [0,2,4]])
 (.seq (.reg false [om_ 28 6 [],oo_ 29 (.call 58 [(.t 28)]) [0]]) (.cond (.t 29) (.seq (.reg false [oo_ 4 (.mv (.d .nilsl)) [],oo_ 5 (.mv (.d (.int .i64 12))) [0,0]]) .ret) .skip))))) (.reg false [oo_ 30 (.bin .add (.t
 18) (.d (.int .i64 1))) [],om_ 18 30 [0]]))))))) (.seq (.reg false [oo_ 9 (.mv (.d .nilsl)) []]) (.seq (.seq (.reg false [om_ 31 6 [],oo_ 32 (.chk (.t 31)) [0],oo_ 33 (.fa 0 (.t 32)) [1],oo_ 34 (.load false 1 (.t 33))
 [2],oo_ 35 (.len (.t 34)) [3],oo_ 36 (.mv (.d (.int .i64 0))) []]) (.block 2 (.loop (.seq (.reg false [oo_ 37 (.bin .lss (.t 36) (.t 35)) []]) (.seq (.cond (.t 37) .skip (.exit 2)) (.seq (.block 3 (.seq (.reg false [oo_
 38 (.ix 14 (.t 34) (.t 36)) [],oo_ 39 (.load true 14 (.t 38)) [0],oo_ 11 (.new 87 [(.int .i64 0),(.int .i64 0),(.int .i64 0),(.int .i64 0),(.int .i64 0),(.int .i64 0),(.bool false),.nilp,.nilp,.nilp,.nilp,.nilsl,(.bool
 false),.nilsl]) [],on_ (.store 14 (.t 11) (.t 39)) [2,1,0,1,2]]) (.reg false [om_ 40 9 [],oo_ 41 (.fa 0 (.t 11)) [],oo_ 42 (.load true 11 (.t 41)) [1],oo_ 43 (.fa 11 (.t 11)) [],oo_ 44 (.load true 3 (.t 43)) [3],oo_ 45
 (.build [(.int .i64 0),(.int .i64 0),(.int .i64 0),(.int .i64 0),(.int .i64 0),(.int .i64 0),(.bool false),.nilp,.nilp,.nilp,.nilp,.nilsl,(.bool false),.nilsl] [(0,11,(.t 42)),(11,3,(.t 44))]) [2,4],oo_ 46 (.bsl 52 14 1
 [(.int .i64 0),(.int .i64 0),(.int .i64 0),(.int .i64 0),(.int .i64 0),(.int .i64 0),(.bool false),.nilp,.nilp,.nilp,.nilp,.nilsl,(.bool false),.nilsl] [(0,14,(.t 45))]) [5],oo_ 47 (.app 52 14 144 (.t 40) (.t 46))
 [0,6],om_ 9 47 [7,7,0,1,2,3,4,5,6,7]]))) (.reg false [oo_ 48 (.bin .add (.t 36) (.d (.int .i64 1))) [],om_ 36 48 [0]]))))))) (.seq (.reg false [om_ 49 9 [],oo_ 50 (.call 59 [(.t 49),(.fn 60)]) [0]]) (.seq (.reg false
 [om_ 51 9 [],om_ 4 51 [0,0],oo_ 5 (.mv (.d (.int .i64 0))) [1,0,1]]) .ret))))))))
theorem o_ds:fnOf Tryz.prog o_dq=some (o_dr,[.t 4,.t 5],52,false):=by kernel_rfl

abbrev o_dt:FuncId:=55
def o_du:C:=(.seq (.reg false [oo_ 2 (.mv (.d .nilp)) []]) (.seq (.reg false [om_ 3 0 [],oo_ 4 (.mkS) [],oo_ 5 (.bldj [(.d .nilsl),(.d .nilfn),.junk] [(1,1,(.t 3)),(2,1,(.t 4))]) [0,1],oo_ 6 (.box 147 (.t 5)) [2],om_ 2 6
 [3,0,1,2,3]]) .ret))
theorem o_dv:fnOf Tryz.prog o_dt=some (o_du,[.t 2],7,false):=by kernel_rfl

abbrev o_dw:FuncId:=59
def o_dx:C:=(.seq (.reg false [om_ 5 0 [],oo_ 6 (.len (.t 5)) [0],om_ 4 6 [1,0,1]]) (.reg false [om_ 7 0 [],om_ 8 4 [],om_ 9 4 [],oo_ 10 (.conv .u64 (.t 9)) [2],oo_ 11 (.call 159 [(.t 10)]) [3],om_ 12 1 [],oo_ 13 (.call 158 [(.t
 7),(.d (.int .i64 0)),(.t 8),(.t 11),(.t 12)]) [0,1,4,5,4]]))
theorem o_dy:fnOf Tryz.prog o_dw=some (o_dx,[],14,false):=by kernel_rfl

abbrev o_dz:FuncId:=158
def o_e0:C:=(.seq (.reg false [oo_ 10 (.mv (.d (.bool true))) []]) (.seq (.reg false [oo_ 11 (.mv (.d (.bool true))) []]) (.block 0 (.loop (.block 1 (.seq (.reg false [om_ 21 2 [],om_ 22 1 [],oo_ 23 (.bin .sub (.t 21) (.t 22))
 [0,1],om_ 12 23 [2,0,1,2]]) (.seq (.seq (.reg false [om_ 24 12 [],oo_ 25 (.bin .leq (.t 24) (.d (.int .i64 12))) [0]]) (.cond (.t 25) (.seq (.reg false [om_ 26 0 [],om_ 27 1 [],om_ 28 2 [],om_ 29 4 [],oo_ 30 (.call 277
 [(.t 26),(.t 27),(.t 28),(.t 29)]) [0,1,2,3]]) .ret) .skip)) (.seq (.seq (.reg false [om_ 31 3 [],oo_ 32 (.bin .eql (.t 31) (.d (.int .i64 0))) [0]]) (.cond (.t 32) (.seq (.reg false [om_ 33 0 [],om_ 34 1 [],om_ 35 2
 [],om_ 36 4 [],oo_ 37 (.call 278 [(.t 33),(.t 34),(.t 35),(.t 36)]) [0,1,2,3]]) .ret) .skip)) (.seq (.seq (.reg false [om_ 38 10 [],oo_ 39 (.un .not (.t 38)) [0]]) (.cond (.t 39) (.seq (.reg false [om_ 40 0 [],om_ 41 1
 [],om_ 42 2 [],om_ 43 4 [],oo_ 44 (.call 279 [(.t 40),(.t 41),(.t 42),(.t 43)]) [0,1,2,3]]) (.reg false [om_ 45 3 [],oo_ 46 (.bin .sub (.t 45) (.d (.int .i64 1))) [0],om_ 3 46 [1,0,1]])) .skip)) (.seq (.reg false [om_
 48 0 [],om_ 49 1 [],om_ 50 2 [],om_ 51 4 [],oo_ 52 (.call 280 [(.t 48),(.t 49),(.t 50),(.t 51)]) [0,1,2,3],om_ 47 52 [4],oo_ 53 (.ext (.t 47) 0) [5],oo_ 54 (.ext (.t 47) 1) [5],om_ 13 53 [6,4,0,1,2,3,4,5,6],om_ 14 54
 [7,8,0,1,2,3,4,5,6,7,8]]) (.seq (.seq (.reg false [om_ 55 14 [],oo_ 56 (.bin .eql (.t 55) (.d (.int .i64 2))) [0]]) (.cond (.t 56) (.seq (.reg false [om_ 57 0 [],om_ 58 1 [],om_ 59 2 [],om_ 60 4 [],oo_ 61 (.call 281
 [(.t 57),(.t 58),(.t 59),(.t 60)]) [0,1,2,3]]) (.seq (.reg false [om_ 62 2 [],oo_ 63 (.bin .sub (.t 62) (.d (.int .i64 1))) [0],om_ 64 13 [],om_ 65 1 [],oo_ 66 (.bin .sub (.t 64) (.t 65)) [2,3],oo_ 67 (.bin .sub (.t 63)
 (.t 66)) [1,4],om_ 13 67 [5,0,1,2,3,4,5]]) (.reg false [oo_ 14 (.mv (.d (.int .i64 1))) []]))) .skip)) (.seq (.seq (.reg false [om_ 68 10 [],om_ 69 68 [0],og_ 70 (.mv (.t 11)) 69 true [1],oo_ 71 (.pick (.t 69) (.t 70)
 (.d (.bool false))) [1,2],om_ 72 71 [3,1],og_ 73 (.mv (.t 14)) 72 true [4],og_ 74 (.bin .eql (.t 73) (.d (.int .i64 1))) 72 true [5,4],oo_ 75 (.pick (.t 72) (.t 74) (.d (.bool false))) [4,6]]) (.cond (.t 75) (.seq (.reg
 false [om_ 76 0 [],om_ 77 1 [],om_ 78 2 [],om_ 79 4 [],oo_ 80 (.call 282 [(.t 76),(.t 77),(.t 78),(.t 79)]) [0,1,2,3]]) (.cond (.t 80) .ret .skip)) .skip)) (.seq (.seq (.reg true [om_ 81 1 [],oo_ 82 (.bin .gtr (.t 81)
 (.d (.int .i64 0))) [0],om_ 83 82 [1],og_ 84 (.mv (.t 4)) 83 true [2],og_ 85 (.mv (.t 0)) 83 true [2],og_ 86 (.mv (.t 1)) 83 true [2],og_ 87 (.bin .sub (.t 86) (.d (.int .i64 1))) 83 true [5,2],og_ 88 (.ix 14 (.t 85)
 (.t 87)) 83 true [4,6,2],og_ 89 (.load true 14 (.t 88)) 83 true [7,2],og_ 90 (.mv (.t 0)) 83 true [2],og_ 91 (.mv (.t 13)) 83 true [2],og_ 92 (.ix 14 (.t 90) (.t 91)) 83 true [9,10,2],og_ 93 (.load true 14 (.t 92)) 83
 true [11,2],og_ 94 (.callv (.t 84) [(.t 89),(.t 93)]) 83 true [3,8,12,2,2],og_ 95 (.bin .lss (.t 94) (.d (.int .i64 0))) 83 true [13,2],og_ 96 (.un .not (.t 95)) 83 true [14,2],oo_ 97 (.pick (.t 83) (.t 96) (.d (.bool
 false))) [2,15]]) (.cond (.t 97) (.seq (.reg false [om_ 98 0 [],om_ 99 1 [],om_ 100 2 [],om_ 101 13 [],om_ 102 4 [],oo_ 103 (.call 283 [(.t 98),(.t 99),(.t 100),(.t 101),(.t 102)]) [0,1,2,3,4],om_ 15 103
 [5,5,0,1,2,3,4,5]]) (.seq (.reg false [om_ 104 15 [],om_ 1 104 [0,0]]) (.exit 1))) .skip)) (.seq (.reg false [om_ 106 0 [],om_ 107 1 [],om_ 108 2 [],om_ 109 13 [],om_ 110 4 [],oo_ 111 (.call 284 [(.t 106),(.t 107),(.t
 108),(.t 109),(.t 110)]) [0,1,2,3,4],om_ 105 111 [5],oo_ 112 (.ext (.t 105) 0) [6],oo_ 113 (.ext (.t 105) 1) [6],om_ 16 112 [7,5,0,1,2,3,4,5,6,7],om_ 17 113 [8,9,0,1,2,3,4,5,6,7,8,9]]) (.seq (.reg false [om_ 114 17
 [],om_ 11 114 [0,0]]) (.seq (.reg false [om_ 115 16 [],om_ 116 1 [],oo_ 117 (.bin .sub (.t 115) (.t 116)) [0,1],om_ 118 2 [],om_ 119 16 [],oo_ 120 (.bin .sub (.t 118) (.t 119)) [3,4],om_ 18 117 [2,0,1,2],om_ 19 120
 [5,6,0,1,2,3,4,5,6]]) (.seq (.reg false [om_ 121 12 [],oo_ 122 (.bin .quo (.t 121) (.d (.int .i64 8))) [0],om_ 20 122 [1,0,1]]) (.seq (.reg false [om_ 123 18 [],om_ 124 19 [],oo_ 125 (.bin .lss (.t 123) (.t 124))
 [0,1]]) (.cond (.t 125) (.seq (.reg false [om_ 126 18 [],om_ 127 20 [],oo_ 128 (.bin .geq (.t 126) (.t 127)) [0,1],om_ 10 128 [2,0,1,2]]) (.seq (.reg false [om_ 129 0 [],om_ 130 1 [],om_ 131 16 [],om_ 132 3 [],om_ 133 4
 [],oo_ 134 (.call 158 [(.t 129),(.t 130),(.t 131),(.t 132),(.t 133)]) [0,1,2,3,4]]) (.reg false [om_ 135 16 [],oo_ 136 (.bin .add (.t 135) (.d (.int .i64 1))) [0],om_ 1 136 [1,0,1]]))) (.seq (.reg false [om_ 137 19
 [],om_ 138 20 [],oo_ 139 (.bin .geq (.t 137) (.t 138)) [0,1],om_ 10 139 [2,0,1,2]]) (.seq (.reg false [om_ 140 0 [],om_ 141 16 [],oo_ 142 (.bin .add (.t 141) (.d (.int .i64 1))) [1],om_ 143 2 [],om_ 144 3 [],om_ 145 4
 [],oo_ 146 (.call 158 [(.t 140),(.t 142),(.t 143),(.t 144),(.t 145)]) [0,2,3,4,5]]) (.reg false [om_ 147 16 [],om_ 2 147 [0,0]]))))))))))))))))))))))
theorem o_e1:fnOf Tryz.prog o_dz=some (o_e0,[],148,false):=by kernel_rfl

abbrev o_e2:FuncId:=277
def o_e3:C:=(.seq (.reg false [om_ 10 1 [],oo_ 11 (.bin .add (.t 10) (.d (.int .i64 1))) [0],om_ 8 11 [1,0,1]]) (.block 0 (.loop (.seq (.seq (.reg false [om_ 12 8 [],om_ 13 2 [],oo_ 14 (.bin .lss (.t 12) (.t 13)) [0,1]]) (.cond (.t
 14) .skip (.exit 0))) (.seq (.block 1 (.seq (.reg false [om_ 17 8 [],om_ 9 17 [0,0]]) (.block 2 (.loop (.seq (.seq (.reg true [om_ 18 9 [],om_ 19 1 [],oo_ 20 (.bin .gtr (.t 18) (.t 19)) [0,1],om_ 21 20 [2],og_ 22 (.mv
 (.t 3)) 21 true [3],og_ 23 (.mv (.t 0)) 21 true [3],og_ 24 (.mv (.t 9)) 21 true [3],og_ 25 (.ix 14 (.t 23) (.t 24)) 21 true [5,6,3],og_ 26 (.load true 14 (.t 25)) 21 true [7,3],og_ 27 (.mv (.t 0)) 21 true [3],og_ 28
 (.mv (.t 9)) 21 true [3],og_ 29 (.bin .sub (.t 28) (.d (.int .i64 1))) 21 true [10,3],og_ 30 (.ix 14 (.t 27) (.t 29)) 21 true [9,11,3],og_ 31 (.load true 14 (.t 30)) 21 true [12,3],og_ 32 (.callv (.t 22) [(.t 26),(.t
 31)]) 21 true [4,8,13,3,3],og_ 33 (.bin .lss (.t 32) (.d (.int .i64 0))) 21 true [14,3],oo_ 34 (.pick (.t 21) (.t 33) (.d (.bool false))) [3,15]]) (.cond (.t 34) .skip (.exit 2))) (.seq (.block 3 (.reg true [om_ 37 0
 [],om_ 38 9 [],om_ 39 0 [],om_ 40 9 [],oo_ 41 (.bin .sub (.t 40) (.d (.int .i64 1))) [3],om_ 42 0 [],om_ 43 9 [],oo_ 44 (.bin .sub (.t 43) (.d (.int .i64 1))) [6],oo_ 45 (.ix 14 (.t 42) (.t 44)) [5,7],oo_ 46 (.load true
 14 (.t 45)) [8],om_ 47 0 [],om_ 48 9 [],oo_ 49 (.ix 14 (.t 47) (.t 48)) [10,11],oo_ 50 (.load true 14 (.t 49)) [12],oo_ 51 (.ix 14 (.t 37) (.t 38)) [0,1,0,1,5,6,7,8,9,13],on_ (.store 14 (.t 51) (.t 46))
 [14,9,0,1,5,6,7,8,9,13],oo_ 52 (.ix 14 (.t 39) (.t 41)) [2,4,0,1,2,3,4,5,6,7,8,9,10,11,12,13,14,15],on_ (.store 14 (.t 52) (.t 50)) [16,13,15,0,1,2,3,4,5,6,7,8,9,10,11,12,13,14,15]])) (.reg false [om_ 35 9 [],oo_ 36
 (.bin .sub (.t 35) (.d (.int .i64 1))) [0],om_ 9 36 [1,0,1]]))))))) (.reg false [om_ 15 8 [],oo_ 16 (.bin .add (.t 15) (.d (.int .i64 1))) [0],om_ 8 16 [1,0,1]]))))))
theorem o_e4:fnOf Tryz.prog o_e2=some (o_e3,[],53,false):=by kernel_rfl

abbrev o_e5:FuncId:=15
def o_e6:C:=(.seq (.reg false [oo_ 1 (.box 50 (.t 0)) [],⟨some 2,.mv (.d (.str ⟨#[]⟩)),none,[]⟩]) (.seq (.seq (.reg false [oo_ 3 (.load true 3 (.t 1)) [],oo_ 4 (.call 48 [(.t 3)]) [0]]) (.cond (.t 4) (.seq (.reg false [oo_ 5 (.fa 0
 (.t 1)) [],oo_ 6 (.load true 2 (.t 5)) [0],oo_ 7 (.call 49 [(.t 6)]) [1],om_ 2 7 [2,2,0,1,2]]) .ret) .skip)) (.seq (.reg true [oo_ 8 (.fa 0 (.t 1)) [],oo_ 9 (.load true 2 (.t 8)) [0],oo_ 10 (.call 49 [(.t 9)]) [1],⟨some
 11,.bin .add (.t 10) (.d (.str ⟨#[47]⟩)),none,[2]⟩,oo_ 12 (.load true 3 (.t 1)) [],oo_ 13 (.call 50 [(.t 12)]) [4,2],oo_ 14 (.call 51 [(.t 13)]) [5,5],oo_ 15 (.bin .add (.t 11) (.t 14)) [3,6],om_ 2 15
 [7,6,0,1,2,3,4,5,6,7]]) .ret)))
theorem o_e7:fnOf Tryz.prog o_e5=some (o_e6,[.t 2],16,false):=by kernel_rfl

abbrev o_e8:FuncId:=48
def o_e9:C:=(.seq (.reg false [oo_ 1 (.box 50 (.t 0)) [],oo_ 2 (.mv (.d (.bool false))) []]) (.seq (.reg false [oo_ 3 (.fa 2 (.t 1)) [],oo_ 4 (.load true 1 (.t 3)) [0],oo_ 5 (.call 144 [(.t 4)]) [1],om_ 2 5 [2,2,0,1,2]]) .ret))
theorem o_ea:fnOf Tryz.prog o_e8=some (o_e9,[.t 2],6,false):=by kernel_rfl

abbrev o_eb:FuncId:=49
def o_ec:C:=(.seq (.reg false [oo_ 1 (.box 48 (.t 0)) [],⟨some 2,.mv (.d (.str ⟨#[]⟩)),none,[]⟩]) (.seq (.seq (.reg false [oo_ 3 (.fa 1 (.t 1)) [],oo_ 4 (.load false 1 (.t 3)) [0]]) (.cond (.t 4) (.seq (.reg false [oo_ 5 (.fa 0 (.t
 1)) [],oo_ 6 (.load true 1 (.t 5)) [0],oo_ 7 (.call 51 [(.t 6)]) [1],⟨some 8,.bin .add (.d (.str ⟨#[45]⟩)) (.t 7),none,[2]⟩,om_ 2 8 [3,2,0,1,2,3]]) .ret) .skip)) (.seq (.reg false [oo_ 9 (.fa 0 (.t 1)) [],oo_ 10 (.load
 true 1 (.t 9)) [0],oo_ 11 (.call 51 [(.t 10)]) [1],om_ 2 11 [2,2,0,1,2]]) .ret)))
theorem o_ed:fnOf Tryz.prog o_eb=some (o_ec,[.t 2],12,false):=by kernel_rfl

abbrev o_ee:FuncId:=40
def o_ef:C:=(.seq (.reg false [oo_ 1 (.box 31 (.t 0)) [],oo_ 2 (.new 123 [(.int .i64 0),(.bool false)]) []]) (.seq (.reg false [oo_ 3 (.fa 0 (.t 1)) [],oo_ 4 (.load false 1 (.t 3)) [0],oo_ 5 (.fa 2 (.t 1)) [],oo_ 6 (.load false 1
 (.t 5)) [2],oo_ 7 (.build [(.int .i64 0),(.bool false)] [(0,1,(.t 4)),(1,1,(.t 6))]) [1,3],on_ (.store 2 (.t 2) (.t 7)) [4,0,1,2,3,4]]) .ret))
theorem o_eg:fnOf Tryz.prog o_ee=some (o_ef,[.cell 2 true 2],8,false):=by kernel_rfl

abbrev o_eh:FuncId:=6
def o_ei:C:=(.seq (.reg false [oo_ 3 (.box 37 (.t 0)) [],oo_ 6 (.mv (.d .nilsl)) [],oo_ 7 (.mv (.d (.int .i64 0))) [1]]) (.seq (.seq (.reg false [oo_ 19 (.load true 11 (.t 3)) [],oo_ 20 (.call 16 [(.t 19)]) [0],om_ 8 20 [1,1,0,1]])
 (.seq (.reg false [om_ 21 8 [],oo_ 22 (.bin .neq (.t 21) (.d (.int .i64 0))) [0]]) (.cond (.t 22) (.seq (.reg false [om_ 23 8 [],oo_ 6 (.mv (.d .nilsl)) [],om_ 7 23 [0,1,0,1]]) .ret) .skip))) (.seq (.seq (.reg false
 [oo_ 24 (.load true 11 (.t 3)) [],om_ 25 1 [],om_ 26 2 [],oo_ 27 (.call 17 [(.t 24),(.t 25),(.t 26)]) [0,1,2],om_ 9 27 [3,3,0,1,2,3]]) (.seq (.reg false [om_ 28 9 [],oo_ 29 (.bin .neq (.t 28) (.d (.int .i64 0))) [0]])
 (.cond (.t 29) (.seq (.reg false [om_ 30 9 [],oo_ 6 (.mv (.d .nilsl)) [],om_ 7 30 [0,1,0,1]]) .ret) .skip))) (.seq (.seq (.reg false [oo_ 31 (.fa 0 (.t 3)) [],oo_ 32 (.load false 1 (.t 31)) [0]]) (.block 0 (.seq (.reg
 false [oo_ 34 (.bin .eql (.t 32) (.d (.int .i64 1))) [],om_ 33 34 [0]]) (.cond (.t 33) (.seq (.reg false [oo_ 36 (.fa 1 (.t 3)) [],oo_ 37 (.load true 3 (.t 36)) [0],oo_ 38 (.fa 4 (.t 3)) [],oo_ 39 (.load true 3 (.t 38))
 [2],om_ 40 2 [],oo_ 41 (.call 18 [(.t 37),(.t 39),(.t 40)]) [1,3,4],om_ 35 41 [5],oo_ 42 (.ext (.t 35) 0) [6],oo_ 43 (.ext (.t 35) 1) [6],om_ 10 42 [7,5,0,1,2,3,4,5,6,7],om_ 11 43 [8,9,0,1,2,3,4,5,6,7,8,9]]) (.seq (.reg
 false [oo_ 44 (.fa 1 (.t 3)) [],oo_ 45 (.load true 3 (.t 44)) [0],om_ 46 10 [],om_ 47 11 [],oo_ 48 (.call 20 [(.t 45),(.t 46),(.t 47)]) [1,2,3],oo_ 49 (.ext (.t 48) 0) [4],oo_ 50 (.ext (.t 48) 1) [4],oo_ 51 (.call 19
 [(.t 49),(.t 50)]) [5,6,4],oo_ 52 (.ext (.t 51) 0) [7],oo_ 53 (.ext (.t 51) 1) [7],om_ 6 52 [8,7,0,1,2,3,4,5,6,7,8,9],om_ 7 53 [9,10,0,1,2,3,4,5,6,7,8,9,10]]) .ret)) (.seq (.reg false [oo_ 55 (.bin .eql (.t 32) (.d
 (.int .i64 2))) [],om_ 54 55 [0]]) (.cond (.t 54) (.seq (.reg false [oo_ 57 (.fa 7 (.t 3)) [],oo_ 58 (.load false 1 (.t 57)) [0],om_ 59 1 [],oo_ 60 (.call 21 [(.t 58),(.t 59)]) [1,2],om_ 56 60 [3],oo_ 61 (.ext (.t 56)
 0) [4],oo_ 62 (.ext (.t 56) 1) [4],oo_ 12 (.new 31 [(.int .i64 0),(.int .i64 0),(.bool false)]) [],on_ (.store 3 (.t 12) (.t 61)) [7,5,3,0,1,2,3,4,5,7],om_ 13 62 [6,8,0,1,2,3,4,5,6,7,8]]) (.seq (.reg true [oo_ 64 (.fa 7
 (.t 3)) [],oo_ 65 (.load false 1 (.t 64)) [0],oo_ 66 (.call 22 [(.t 65)]) [1],oo_ 67 (.load true 3 (.t 12)) [],om_ 68 2 [],oo_ 69 (.call 18 [(.t 66),(.t 67),(.t 68)]) [2,3,4,2],om_ 63 69 [5],oo_ 70 (.ext (.t 63) 0)
 [6],oo_ 71 (.ext (.t 63) 1) [6],om_ 14 70 [7,5,0,1,2,3,4,5,6,7],om_ 15 71 [8,9,0,1,2,3,4,5,6,7,8,9]]) (.seq (.seq (.reg false [om_ 72 15 [],oo_ 73 (.bin .neq (.t 72) (.d (.int .i64 0))) [0]]) (.cond (.t 73) (.seq (.reg
 false [om_ 74 15 [],oo_ 6 (.mv (.d .nilsl)) [],om_ 7 74 [0,1,0,1]]) .ret) .skip)) (.seq (.reg false [oo_ 16 (.mv (.d .nilsl)) []]) (.seq (.seq (.reg false [oo_ 75 (.fa 7 (.t 3)) [],oo_ 76 (.load false 1 (.t 75)) [0],om_
 77 1 [],om_ 78 14 [],oo_ 79 (.call 23 [(.t 76),(.t 77),(.t 78)]) [1,2,3],oo_ 80 (.len (.t 79)) [4],oo_ 81 (.mv (.d (.int .i64 0))) []]) (.block 1 (.loop (.seq (.reg false [oo_ 82 (.bin .lss (.t 81) (.t 80)) []]) (.seq
 (.cond (.t 82) .skip (.exit 1)) (.seq (.block 2 (.seq (.reg false [oo_ 83 (.ix 4 (.t 79) (.t 81)) [],oo_ 84 (.load true 4 (.t 83)) [0],oo_ 18 (.new 85 [.nilp,.nilsl,(.bool false),.nilsl]) [],on_ (.store 4 (.t 18) (.t
 84)) [2,1,0,1,2]]) (.reg false [om_ 85 16 [],oo_ 86 (.fa 0 (.t 18)) [],oo_ 87 (.load false 1 (.t 86)) [1],oo_ 88 (.build [(.int .i64 0),(.int .i64 0),(.int .i64 0),(.int .i64 0),(.int .i64 0),(.int .i64 0),(.bool
 false),.nilp,.nilp,.nilp,.nilp] [(0,1,(.d (.int .i64 2))),(7,1,(.t 87))]) [2],oo_ 89 (.fa 1 (.t 18)) [],oo_ 90 (.load true 3 (.t 89)) [4],oo_ 91 (.build [(.int .i64 0),(.int .i64 0),(.int .i64 0),(.int .i64 0),(.int
 .i64 0),(.int .i64 0),(.bool false),.nilp,.nilp,.nilp,.nilp,.nilsl,(.bool false),.nilsl] [(0,11,(.t 88)),(11,3,(.t 90))]) [3,5],oo_ 92 (.bsl 87 14 1 [(.int .i64 0),(.int .i64 0),(.int .i64 0),(.int .i64 0),(.int .i64
 0),(.int .i64 0),(.bool false),.nilp,.nilp,.nilp,.nilp,.nilsl,(.bool false),.nilsl] [(0,14,(.t 91))]) [6],oo_ 93 (.app 87 14 144 (.t 85) (.t 92)) [0,7],om_ 16 93 [8,8,0,1,2,3,4,5,6,7,8]]))) (.reg false [oo_ 94 (.bin
 .add (.t 81) (.d (.int .i64 1))) [],om_ 81 94 [0]]))))))) (.seq (.reg false [om_ 95 16 [],oo_ 96 (.call 19 [(.t 95),(.d (.int .i64 0))]) [0],oo_ 97 (.ext (.t 96) 0) [1],oo_ 98 (.ext (.t 96) 1) [1],om_ 6 97
 [2,1,0,1,2,3],om_ 7 98 [3,4,0,1,2,3,4]]) .ret)))))) .skip)))))) (.seq (.reg false [oo_ 99 (.fa 8 (.t 3)) [],oo_ 100 (.load false 1 (.t 99)) [0],om_ 101 1 [],om_ 102 2 [],oo_ 103 (.call 24 [(.t 100),(.t 101),(.t 102)])
 [1,2,3],oo_ 104 (.ext (.t 103) 0) [4],oo_ 105 (.ext (.t 103) 1) [4],oo_ 106 (.call 19 [(.t 104),(.t 105)]) [5,6,4],oo_ 107 (.ext (.t 106) 0) [7],oo_ 108 (.ext (.t 106) 1) [7],om_ 6 107 [8,7,0,1,2,3,4,5,6,7,8,9],om_ 7
 108 [9,10,0,1,2,3,4,5,6,7,8,9,10]]) .ret)))))
theorem o_ej:fnOf Tryz.prog o_eh=some (o_ei,[.t 6,.t 7],109,false):=by kernel_rfl

abbrev o_ek:FuncId:=17
def o_el:C:=(.seq (.reg false [oo_ 3 (.box 37 (.t 0)) [],oo_ 6 (.mv (.d (.int .i64 0))) []]) (.seq (.reg false [oo_ 7 (.mv (.d (.int .i64 0))) []]) (.seq (.seq (.reg false [oo_ 8 (.fa 0 (.t 3)) [],oo_ 9 (.load false 1 (.t 8)) [0]])
 (.block 0 (.seq (.reg false [oo_ 11 (.bin .eql (.t 9) (.d (.int .i64 1))) [],om_ 10 11 [0]]) (.cond (.t 10) .skip (.seq (.reg false [oo_ 13 (.bin .eql (.t 9) (.d (.int .i64 2))) [],om_ 12 13 [0]]) (.cond (.t 12) (.reg
 false [oo_ 15 (.fa 7 (.t 3)) [],oo_ 16 (.load false 1 (.t 15)) [0],om_ 17 1 [],oo_ 18 (.call 21 [(.t 16),(.t 17)]) [1,2],om_ 14 18 [3],oo_ 19 (.ext (.t 14) 0) [4],oo_ 20 (.ext (.t 14) 1) [4],om_ 7 20
 [6,3,0,1,2,3,4,5,6]]) (.seq (.reg false [oo_ 22 (.bin .eql (.t 9) (.d (.int .i64 3))) [],om_ 21 22 [0]]) (.cond (.t 21) (.reg false [oo_ 24 (.fa 8 (.t 3)) [],oo_ 25 (.load false 1 (.t 24)) [0],om_ 26 1 [],oo_ 27 (.call
 53 [(.t 25),(.t 26)]) [1,2],om_ 23 27 [3],oo_ 28 (.ext (.t 23) 0) [4],oo_ 29 (.ext (.t 23) 1) [4],om_ 7 29 [6,3,0,1,2,3,4,5,6]]) (.reg false [oo_ 7 (.mv (.d (.int .i64 10))) []]))))))))) (.seq (.block 1 (.seq (.reg
 false [om_ 31 7 [],oo_ 32 (.bin .neq (.t 31) (.d (.int .i64 0))) [0],om_ 30 32 [1]]) (.cond (.t 30) (.seq (.reg false [om_ 33 7 [],om_ 6 33 [0,0]]) .ret) (.seq (.reg false [om_ 35 2 [],oo_ 36 (.bin .lss (.t 35) (.d
 (.int .i64 0))) [0],om_ 37 36 [1],og_ 38 (.mv (.t 2)) 37 false [2],og_ 39 (.bin .gtr (.t 38) (.d (.int .i64 1048576))) 37 false [3,2],oo_ 40 (.pick (.t 37) (.d (.bool true)) (.t 39)) [2,4],om_ 34 40 [5,2]]) (.cond (.t
 34) (.seq (.reg false [oo_ 6 (.mv (.d (.int .i64 2))) []]) .ret) (.seq (.reg false [om_ 42 2 [],oo_ 43 (.bin .gtr (.t 42) (.d (.int .i64 16))) [0],om_ 41 43 [1]]) (.cond (.t 41) (.seq (.reg false [oo_ 6 (.mv (.d (.int
 .i64 12))) []]) .ret) .skip))))))) (.seq (.reg false [oo_ 6 (.mv (.d (.int .i64 0))) []]) .ret)))))
theorem o_em:fnOf Tryz.prog o_ek=some (o_el,[.t 6],44,false):=by kernel_rfl

abbrev o_en:FuncId:=18
def o_eo:C:=(.seq (.reg false [oo_ 3 (.box 29 (.t 0)) [],oo_ 4 (.box 31 (.t 1)) [],oo_ 6 (.mv (.d .nilsl)) [],oo_ 7 (.mv (.d (.int .i64 0))) [2]]) (.seq (.reg false [oo_ 8 (.load true 3 (.t 3)) [],oo_ 9 (.load true 3 (.t 4)) [],om_
 10 2 [],oo_ 11 (.call 54 [(.t 8),(.t 9),(.t 10)]) [0,1,2],oo_ 12 (.ext (.t 11) 0) [3],oo_ 13 (.ext (.t 11) 1) [3],om_ 6 12 [4,3,0,1,2,3,4,5],om_ 7 13 [5,6,0,1,2,3,4,5,6]]) .ret))
theorem o_ep:fnOf Tryz.prog o_en=some (o_eo,[.t 6,.t 7],14,false):=by kernel_rfl

abbrev o_eq:FuncId:=54
def o_er:C:=(.seq (.reg false [oo_ 3 (.box 29 (.t 0)) [],oo_ 4 (.box 31 (.t 1)) [],oo_ 6 (.mv (.d .nilsl)) [],oo_ 7 (.mv (.d (.int .i64 0))) [2]]) (.seq (.seq (.reg false [oo_ 10 (.load true 3 (.t 3)) [],oo_ 11 (.load true 3 (.t
 4)) [],oo_ 12 (.bsl 31 3 1 [(.int .i64 0),(.int .i64 0),(.bool false)] [(0,3,(.t 11))]) [1],oo_ 13 (.call 150 [(.t 10),(.t 12)]) [0,2],om_ 8 13 [3,3,0,1,2,3]]) (.block 0 (.seq (.reg false [om_ 15 8 [],oo_ 16 (.bin .neq
 (.t 15) (.d (.int .i64 0))) [0],om_ 14 16 [1]]) (.cond (.t 14) (.seq (.reg false [om_ 17 8 [],oo_ 6 (.mv (.d .nilsl)) [],om_ 7 17 [0,1,0,1]]) .ret) (.seq (.reg false [om_ 19 2 [],oo_ 20 (.bin .lss (.t 19) (.d (.int .i64
 0))) [0],om_ 21 20 [1],og_ 22 (.mv (.t 2)) 21 false [2],og_ 23 (.bin .gtr (.t 22) (.d (.int .i64 64))) 21 false [3,2],oo_ 24 (.pick (.t 21) (.d (.bool true)) (.t 23)) [2,4],om_ 18 24 [5,2]]) (.cond (.t 18) (.seq (.reg
 false [oo_ 6 (.mv (.d .nilsl)) [],oo_ 7 (.mv (.d (.int .i64 2))) [0,0]]) .ret) (.seq (.reg false [om_ 26 2 [],oo_ 27 (.bin .add (.t 26) (.d (.int .i64 1))) [0],oo_ 28 (.load true 3 (.t 3)) [],oo_ 29 (.call 151 [(.t
 28)]) [2],oo_ 30 (.bin .mul (.t 27) (.t 29)) [1,3],oo_ 31 (.bin .gtr (.t 30) (.d (.int .i64 512))) [4],om_ 25 31 [5,3]]) (.cond (.t 25) (.seq (.reg false [oo_ 6 (.mv (.d .nilsl)) [],oo_ 7 (.mv (.d (.int .i64 12)))
 [0,0]]) .ret) .skip)))))))) (.seq (.reg false [oo_ 32 (.load true 3 (.t 4)) [],oo_ 33 (.call 152 [(.t 32)]) [0],om_ 9 33 [1,1,0,1]]) (.seq (.seq (.reg false [om_ 34 2 [],oo_ 35 (.mv (.d (.int .i64 0))) []]) (.block 1
 (.loop (.seq (.reg false [oo_ 36 (.bin .lss (.t 35) (.t 34)) []]) (.seq (.cond (.t 36) .skip (.exit 1)) (.seq (.block 2 (.reg false [om_ 37 9 [],oo_ 38 (.mkf (.func 154) [(.t 3)]) [],oo_ 39 (.call 153 [(.t 37),(.t 38)])
 [0,1],om_ 9 39 [2,2,0,1,2]])) (.reg false [oo_ 40 (.bin .add (.t 35) (.d (.int .i64 1))) [],om_ 35 40 [0]]))))))) (.seq (.reg false [om_ 41 9 [],oo_ 42 (.call 102 [(.t 41)]) [0],om_ 6 42 [1,1,0,1],oo_ 7 (.mv (.d (.int
 .i64 0))) [2,0,1,2]]) .ret)))))
theorem o_es:fnOf Tryz.prog o_eq=some (o_er,[.t 6,.t 7],43,false):=by kernel_rfl

abbrev o_et:FuncId:=154
def o_eu:C:=(.seq (.reg false [oo_ 2 (.box 31 (.t 0)) [],oo_ 3 (.mv .bad) []]) (.seq (.reg false [oo_ 4 (.load true 3 (.t 1)) [],oo_ 5 (.load true 3 (.t 2)) [],oo_ 6 (.call 155 [(.t 4),(.t 5)]) [0,1],om_ 3 6 [2,2,0,1,2]]) .ret))
theorem o_ev:fnOf Tryz.prog o_et=some (o_eu,[.t 3],7,false):=by kernel_rfl

abbrev o_ew:FuncId:=155
def o_ex:C:=(.seq (.reg false [oo_ 2 (.box 29 (.t 0)) [],oo_ 3 (.box 31 (.t 1)) [],oo_ 4 (.mv .bad) []]) (.seq (.seq (.reg false [oo_ 8 (.fa 0 (.t 2)) [],oo_ 9 (.load false 1 (.t 8)) [0],oo_ 10 (.bin .eql (.t 9) (.d (.int .i64 4)))
 [1]]) (.cond (.t 10) (.seq (.reg false [oo_ 11 (.load true 3 (.t 3)) [],oo_ 5 (.new 31 [(.int .i64 0),(.int .i64 0),(.bool false)]) [],on_ (.store 3 (.t 5) (.t 11)) [1,0,0,1]]) (.seq (.reg false [oo_ 12 (.fa 0 (.t 5))
 [],oo_ 13 (.load false 1 (.t 12)) [0],oo_ 14 (.bin .add (.t 13) (.d (.int .i64 1))) [1],oo_ 15 (.fa 0 (.t 5)) [0,1,2],on_ (.store 1 (.t 15) (.t 14)) [3,2,0,1,2]]) (.seq (.reg true [oo_ 16 (.fa 1 (.t 3)) [],oo_ 17 (.load
 false 1 (.t 16)) [0],oo_ 18 (.call 266 [(.t 17)]) [1],oo_ 19 (.load true 3 (.t 5)) [],oo_ 20 (.load true 3 (.t 3)) [],oo_ 21 (.call 265 [(.t 18),(.t 19),(.t 20)]) [2,3,4,2],oo_ 22 (.mkf (.func 267) [(.t 2)]) [],oo_ 23
 (.call 153 [(.t 21),(.t 22)]) [5,6,5],om_ 4 23 [7,7,0,1,2,3,4,5,6,7]]) .ret))) .skip)) (.seq (.reg true [oo_ 25 (.load true 3 (.t 2)) [],oo_ 26 (.call 268 [(.t 25)]) [0],oo_ 27 (.fa 0 (.t 3)) [],oo_ 28 (.load false 1
 (.t 27)) [2],oo_ 29 (.call 269 [(.t 26),(.t 28)]) [1,3,1],om_ 24 29 [4],oo_ 30 (.ext (.t 24) 0) [5],oo_ 31 (.ext (.t 24) 1) [5],oo_ 6 (.new 50 [.nilsl,(.bool false),.nilsl]) [],on_ (.store 3 (.t 6) (.t 30))
 [8,6,4,0,1,2,3,4,5,6,8],om_ 7 31 [7,9,0,1,2,3,4,5,6,7,8,9]]) (.seq (.reg false [oo_ 32 (.load true 3 (.t 2)) [],oo_ 33 (.load true 3 (.t 3)) [],oo_ 34 (.load true 3 (.t 6)) [],oo_ 35 (.call 270 [(.t 32),(.t 33),(.t
 34)]) [0,1,2],om_ 4 35 [3,3,0,1,2,3]]) .ret))))
theorem o_ey:fnOf Tryz.prog o_ew=some (o_ex,[.t 4],36,false):=by kernel_rfl

abbrev o_ez:FuncId:=269
def o_f0:C:=(.seq (.reg false [oo_ 2 (.box 126 (.t 0)) [],oo_ 4 (.new 50 [.nilsl,(.bool false),.nilsl]) [],oo_ 5 (.mv (.d (.int .i64 0))) []]) (.seq (.seq (.reg false [oo_ 7 (.load true 3 (.t 2)) [],om_ 8 1 [],oo_ 9 (.bsl 3 1 1
 [(.int .i64 0)] [(0,1,(.t 8))]) [1],oo_ 10 (.call 126 [(.t 7),(.t 9)]) [0,2],om_ 6 10 [3,3,0,1,2,3]]) (.seq (.reg false [om_ 11 6 [],oo_ 12 (.bin .neq (.t 11) (.d (.int .i64 0))) [0],om_ 13 12 [1],og_ 14 (.mv (.t 1)) 13
 false [2],og_ 15 (.load true 3 (.t 2)) 13 false [2],og_ 16 (.call 225 [(.t 15)]) 13 false [4,2,2],og_ 17 (.bin .eql (.t 14) (.t 16)) 13 false [3,5,2],oo_ 18 (.pick (.t 13) (.d (.bool true)) (.t 17)) [2,6]]) (.cond (.t
 18) (.seq (.reg false [oo_ 19 (.build [.nilsl,(.bool false),.nilsl] []) [],om_ 20 6 [],on_ (.store 3 (.t 4) (.t 19)) [0,0],om_ 5 20 [1,2,0,1,2]]) .ret) .skip))) (.seq (.reg false [oo_ 21 (.load true 3 (.t 2)) [],oo_ 22
 (.call 127 [(.t 21)]) [0],om_ 23 1 [],oo_ 24 (.inv (.t 22) "tallymark/chain.chance" [(.t 23)]) [1,2,1],oo_ 25 (.ext (.t 24) 0) [3],oo_ 26 (.ext (.t 24) 1) [3],on_ (.store 3 (.t 4) (.t 25)) [4,3,0,1,2,3,4,5],om_ 5 26
 [5,6,0,1,2,3,4,5,6]]) .ret)))
theorem o_f1:fnOf Tryz.prog o_ez=some (o_f0,[.cell 4 true 3,.t 5],27,false):=by kernel_rfl

abbrev o_f2:FuncId:=461
def o_f3:C:=(.seq (.reg false [oo_ 4 (.new 50 [.nilsl,(.bool false),.nilsl]) [],oo_ 5 (.mv (.d (.int .i64 0))) []]) (.seq (.reg false [om_ 6 0 [],om_ 7 1 [],oo_ 8 (.call 467 [(.t 6),(.t 7)]) [0,1],oo_ 9 (.ext (.t 8) 0) [2],oo_ 10
 (.ext (.t 8) 1) [2],on_ (.store 3 (.t 4) (.t 9)) [3,2,0,1,2,3,4],om_ 5 10 [4,5,0,1,2,3,4,5]]) .ret))
theorem o_f4:fnOf Tryz.prog o_f2=some (o_f3,[.cell 4 true 3,.t 5],11,false):=by kernel_rfl

abbrev o_f5:FuncId:=467
def o_f6:C:=(.seq (.reg false [oo_ 4 (.new 50 [.nilsl,(.bool false),.nilsl]) [],oo_ 5 (.mv (.d (.int .i64 0))) []]) (.seq (.seq (.reg false [om_ 9 0 [],om_ 10 1 [],oo_ 11 (.bsl 3 1 1 [(.int .i64 0)] [(0,1,(.t 10))]) [1],oo_ 12
 (.call 471 [(.t 9),(.t 11)]) [0,2],om_ 6 12 [3,3,0,1,2,3]]) (.seq (.reg false [om_ 13 6 [],oo_ 14 (.bin .neq (.t 13) (.d (.int .i64 0))) [0]]) (.cond (.t 14) (.seq (.reg false [oo_ 15 (.build [.nilsl,(.bool
 false),.nilsl] []) [],om_ 16 6 [],on_ (.store 3 (.t 4) (.t 15)) [0,0],om_ 5 16 [1,2,0,1,2]]) .ret) .skip))) (.seq (.reg false [om_ 18 0 [],om_ 19 1 [],oo_ 20 (.call 472 [(.t 18),(.t 19)]) [0,1],om_ 17 20 [2],oo_ 21
 (.ext (.t 17) 0) [3],oo_ 22 (.ext (.t 17) 1) [3],om_ 7 21 [4,2,0,1,2,3,4],om_ 8 22 [5,6,0,1,2,3,4,5,6]]) (.seq (.reg false [om_ 23 7 [],oo_ 24 (.call 356 [(.t 23)]) [0],oo_ 25 (.ext (.t 24) 0) [1],oo_ 26 (.ext (.t 24)
 1) [1],on_ (.store 3 (.t 4) (.t 25)) [2,1,0,1,2,3],om_ 5 26 [3,4,0,1,2,3,4]]) .ret))))
theorem o_f7:fnOf Tryz.prog o_f5=some (o_f6,[.cell 4 true 3,.t 5],27,false):=by kernel_rfl

abbrev o_f8:FuncId:=471
def o_f9:C:=(.seq (.reg false [oo_ 4 (.mv (.d (.int .i64 0))) []]) (.seq (.seq (.reg false [om_ 7 0 [],oo_ 8 (.call 468 [(.t 7)]) [0],oo_ 9 (.un .not (.t 8)) [1]]) (.cond (.t 9) (.seq (.reg false [oo_ 4 (.mv (.d (.int .i64 10)))
 []]) .ret) .skip)) (.seq (.seq (.reg false [om_ 10 1 [],oo_ 11 (.len (.t 10)) [0],oo_ 12 (.mv (.d (.int .i64 0))) []]) (.block 0 (.loop (.seq (.reg false [oo_ 13 (.bin .lss (.t 12) (.t 11)) []]) (.seq (.cond (.t 13)
 .skip (.exit 0)) (.seq (.block 1 (.seq (.reg false [oo_ 14 (.ix 1 (.t 10) (.t 12)) [],oo_ 15 (.load false 1 (.t 14)) [0],om_ 6 15 [1,0,1]]) (.seq (.reg false [om_ 16 6 [],oo_ 17 (.bin .lss (.t 16) (.d (.int .i64 0)))
 [0],om_ 18 17 [1],og_ 19 (.mv (.t 6)) 18 false [2],og_ 20 (.bin .gtr (.t 19) (.d (.int .i64 1023))) 18 false [3,2],oo_ 21 (.pick (.t 18) (.d (.bool true)) (.t 20)) [2,4]]) (.cond (.t 21) (.seq (.reg false [oo_ 4 (.mv
 (.d (.int .i64 2))) []]) .ret) .skip)))) (.reg false [oo_ 22 (.bin .add (.t 12) (.d (.int .i64 1))) [],om_ 12 22 [0]]))))))) (.seq (.reg false [oo_ 4 (.mv (.d (.int .i64 0))) []]) .ret))))
theorem o_fa:fnOf Tryz.prog o_f8=some (o_f9,[.t 4],23,false):=by kernel_rfl

abbrev o_fb:FuncId:=472
def o_fc:C:=(.seq (.reg false [oo_ 4 (.mv (.d (.int .i64 0))) [],oo_ 5 (.mv (.d (.int .i64 0))) [0]]) (.seq (.reg true [om_ 6 1 [],om_ 7 0 [],oo_ 8 (.bin .shr (.t 6) (.t 7)) [0,1],om_ 9 1 [],om_ 10 0 [],oo_ 11 (.bin .shl (.d (.int
 .i64 1)) (.t 10)) [4],oo_ 12 (.bin .sub (.t 11) (.d (.int .i64 1))) [5],oo_ 13 (.bin .and (.t 9) (.t 12)) [3,6],om_ 4 8 [2,0,1,2],om_ 5 13 [7,8,0,1,2,3,4,5,6,7,8]]) .ret))
theorem o_fd:fnOf Tryz.prog o_fb=some (o_fc,[.t 4,.t 5],14,false):=by kernel_rfl

abbrev o_fe:FuncId:=356
def o_ff:C:=(.seq (.reg false [oo_ 2 (.new 50 [.nilsl,(.bool false),.nilsl]) [],oo_ 3 (.mv (.d (.int .i64 0))) []]) (.seq (.reg false [oo_ 7 (.bsl 22 1 1 [(.int .u64 0)] [(0,1,(.d (.int .u64 1)))]) [],oo_ 8 (.call 74 [(.t 7)])
 [0],om_ 9 0 [],oo_ 10 (.call 182 [(.t 8),(.t 9)]) [1,2,1],om_ 6 10 [3],oo_ 11 (.ext (.t 6) 0) [4],oo_ 12 (.ext (.t 6) 1) [4],oo_ 4 (.new 46 [.nilsl]) [],on_ (.store 1 (.t 4) (.t 11)) [7,5,3,0,1,2,3,4,5,7],om_ 5 12
 [6,8,0,1,2,3,4,5,6,7,8]]) (.seq (.seq (.reg false [om_ 13 5 [],oo_ 14 (.bin .neq (.t 13) (.d (.int .i64 0))) [0]]) (.cond (.t 14) (.seq (.reg false [oo_ 15 (.build [.nilsl,(.bool false),.nilsl] []) [],om_ 16 5 [],on_
 (.store 3 (.t 2) (.t 15)) [0,0],om_ 3 16 [1,2,0,1,2]]) .ret) .skip)) (.seq (.reg true [oo_ 17 (.call 205 [(.d (.int .i64 1))]) [],oo_ 18 (.load true 1 (.t 4)) [],oo_ 19 (.call 274 [(.t 17),(.t 18)]) [0,1,0],on_ (.store
 3 (.t 2) (.t 19)) [2,2,0,1,2],oo_ 3 (.mv (.d (.int .i64 0))) [3,0,1,2,3]]) .ret))))
theorem o_fg:fnOf Tryz.prog o_fe=some (o_ff,[.cell 2 true 3,.t 3],20,false):=by kernel_rfl

abbrev o_fh:FuncId:=182
def o_fi:C:=(.seq (.reg false [oo_ 2 (.box 46 (.t 0)) [],oo_ 4 (.new 46 [.nilsl]) [],oo_ 5 (.mv (.d (.int .i64 0))) []]) (.seq (.seq (.reg false [om_ 6 1 [],oo_ 7 (.bin .lss (.t 6) (.d (.int .i64 0))) [0],om_ 8 7 [1],og_ 9 (.mv (.t
 1)) 8 false [2],og_ 10 (.bin .gtr (.t 9) (.d (.int .i64 8192))) 8 false [3,2],oo_ 11 (.pick (.t 8) (.d (.bool true)) (.t 10)) [2,4]]) (.cond (.t 11) (.seq (.reg false [oo_ 12 (.build [.nilsl] []) [],on_ (.store 1 (.t 4)
 (.t 12)) [0,0],oo_ 5 (.mv (.d (.int .i64 2))) [1,0,1]]) .ret) .skip)) (.seq (.reg true [om_ 13 1 [],oo_ 14 (.bin .quo (.t 13) (.d (.int .i64 64))) [0],oo_ 15 (.mksl 22 1 8 [(.int .u64 0)] (.t 14) (.t 14)) [1,1],oo_ 16
 (.fa 0 (.t 2)) [],oo_ 17 (.load false 1 (.t 16)) [3],om_ 18 1 [],oo_ 19 (.bin .rem (.t 18) (.d (.int .i64 64))) [5],oo_ 20 (.call 291 [(.t 17),(.t 19)]) [4,6],oo_ 21 (.app 22 1 8 (.t 15) (.t 20)) [2,7,7],oo_ 22 (.call
 147 [(.t 21)]) [8,8],on_ (.store 1 (.t 4) (.t 22)) [9,9,0,1,2,3,4,5,6,7,8,9],oo_ 5 (.mv (.d (.int .i64 0))) [10,0,1,2,3,4,5,6,7,8,9,10]]) .ret)))
theorem o_fj:fnOf Tryz.prog o_fh=some (o_fi,[.cell 4 true 1,.t 5],23,false):=by kernel_rfl

abbrev o_fk:FuncId:=291
def o_fl:C:=(.seq (.reg false [oo_ 4 (.mv (.d .nilsl)) []]) (.seq (.reg false [om_ 8 0 [],oo_ 9 (.len (.t 8)) [0],oo_ 10 (.bin .add (.t 9) (.d (.int .i64 1))) [1],oo_ 11 (.mksl 22 1 8 [(.int .u64 0)] (.t 10) (.t 10)) [2,2],om_ 5 11
 [3,0,1,2,3]]) (.seq (.seq (.reg false [om_ 12 0 [],oo_ 13 (.len (.t 12)) [0],oo_ 14 (.mv (.d (.int .i64 0))) []]) (.block 0 (.loop (.seq (.reg false [oo_ 15 (.bin .lss (.t 14) (.t 13)) []]) (.seq (.cond (.t 15) .skip
 (.exit 0)) (.seq (.block 1 (.seq (.reg false [om_ 16 14 [],oo_ 17 (.ix 1 (.t 12) (.t 14)) [],oo_ 18 (.load false 1 (.t 17)) [1],om_ 6 16 [0,0,1,2],om_ 7 18 [2,3,0,1,2,3]]) (.seq (.reg true [om_ 19 5 [],om_ 20 6 [],oo_
 21 (.ix 1 (.t 19) (.t 20)) [0,1],oo_ 22 (.load false 1 (.t 21)) [2],om_ 23 7 [],om_ 24 1 [],oo_ 25 (.bin .shl (.t 23) (.t 24)) [4,5],oo_ 26 (.bin .or (.t 22) (.t 25)) [3,6],oo_ 27 (.ix 1 (.t 19) (.t 20))
 [0,1,0,1,2,3,4,5,6,7],on_ (.store 1 (.t 27) (.t 26)) [8,7,0,1,2,3,4,5,6,7]]) (.reg false [om_ 28 5 [],om_ 29 6 [],oo_ 30 (.bin .add (.t 29) (.d (.int .i64 1))) [1],om_ 31 7 [],om_ 32 1 [],oo_ 33 (.bin .sub (.d (.int
 .i64 64)) (.t 32)) [4],oo_ 34 (.bin .shr (.t 31) (.t 33)) [3,5],oo_ 35 (.ix 1 (.t 28) (.t 30)) [0,2,0,1,2,3,4,5,6],on_ (.store 1 (.t 35) (.t 34)) [7,6,0,1,2,3,4,5,6]])))) (.reg false [oo_ 36 (.bin .add (.t 14) (.d (.int
 .i64 1))) [],om_ 14 36 [0]]))))))) (.seq (.reg false [om_ 37 5 [],om_ 4 37 [0,0]]) .ret))))
theorem o_fm:fnOf Tryz.prog o_fk=some (o_fl,[.t 4],38,false):=by kernel_rfl

abbrev o_fn:FuncId:=270
def o_fo:C:=(.seq (.reg false [oo_ 3 (.box 29 (.t 0)) [],oo_ 4 (.box 31 (.t 1)) [],oo_ 5 (.box 50 (.t 2)) [],oo_ 6 (.mv .bad) []]) (.seq (.seq (.reg true [oo_ 8 (.fa 0 (.t 4)) [],oo_ 9 (.load false 1 (.t 8)) [0],oo_ 10 (.load true
 3 (.t 3)) [],oo_ 11 (.call 268 [(.t 10)]) [2],oo_ 12 (.call 225 [(.t 11)]) [3,3],oo_ 13 (.bin .eql (.t 9) (.t 12)) [1,4]]) (.cond (.t 13) (.seq (.reg false [oo_ 14 (.fa 2 (.t 4)) [],on_ (.store 1 (.t 14) (.d (.bool
 true))) [0]]) (.seq (.reg false [oo_ 15 (.load true 3 (.t 4)) [],oo_ 16 (.call 152 [(.t 15)]) [0],om_ 6 16 [1,1,0,1]]) .ret)) .skip)) (.seq (.reg false [oo_ 17 (.load true 3 (.t 4)) [],oo_ 7 (.new 31 [(.int .i64
 0),(.int .i64 0),(.bool false)]) [],on_ (.store 3 (.t 7) (.t 17)) [1,0,0,1]]) (.seq (.reg false [oo_ 18 (.fa 0 (.t 7)) [],oo_ 19 (.load false 1 (.t 18)) [0],oo_ 20 (.bin .add (.t 19) (.d (.int .i64 1))) [1],oo_ 21 (.fa
 0 (.t 7)) [0,1,2],on_ (.store 1 (.t 21) (.t 20)) [3,2,0,1,2]]) (.seq (.reg false [oo_ 22 (.load true 3 (.t 5)) [],oo_ 23 (.load true 3 (.t 7)) [],oo_ 24 (.load true 3 (.t 4)) [],oo_ 25 (.call 265 [(.t 22),(.t 23),(.t
 24)]) [0,1,2],om_ 6 25 [3,3,0,1,2,3]]) .ret)))))
theorem o_fp:fnOf Tryz.prog o_fn=some (o_fo,[.t 6],26,false):=by kernel_rfl

abbrev o_fq:FuncId:=265
def o_fr:C:=(.seq (.reg false [oo_ 3 (.box 50 (.t 0)) [],oo_ 4 (.box 31 (.t 1)) [],oo_ 5 (.box 31 (.t 2)) [],oo_ 6 (.mv .bad) []]) (.seq (.reg false [oo_ 8 (.mkm 1000391) [],om_ 7 8 [0,0]]) (.seq (.reg false [om_ 9 7 [],oo_ 10
 (.load true 3 (.t 4)) [],oo_ 11 (.load true 3 (.t 3)) [],oo_ 12 (.call 214 [(.t 9),(.t 10),(.t 11)]) [0,1,2]]) (.seq (.reg true [om_ 13 7 [],oo_ 14 (.load true 3 (.t 5)) [],oo_ 15 (.call 90 [(.d (.int .i64 1))]) [],oo_
 16 (.load true 3 (.t 3)) [],oo_ 17 (.call 96 [(.t 15),(.t 16)]) [2,3,2],oo_ 18 (.call 214 [(.t 13),(.t 14),(.t 17)]) [0,1,4,4]]) (.seq (.reg false [om_ 19 7 [],om_ 6 19 [0,0]]) .ret)))))
theorem o_fs:fnOf Tryz.prog o_fq=some (o_fr,[.t 6],20,false):=by kernel_rfl

abbrev o_ft:FuncId:=96
def o_fu:C:=(.seq (.reg false [oo_ 2 (.box 50 (.t 0)) [],oo_ 3 (.box 50 (.t 1)) [],oo_ 4 (.new 50 [.nilsl,(.bool false),.nilsl]) []]) (.seq (.reg true [oo_ 5 (.load true 3 (.t 2)) [],oo_ 6 (.fa 0 (.t 3)) [],oo_ 7 (.load true 2 (.t
 6)) [1],oo_ 8 (.call 207 [(.t 7)]) [2],oo_ 9 (.fa 2 (.t 3)) [],oo_ 10 (.load true 1 (.t 9)) [4],oo_ 11 (.build [.nilsl,(.bool false),.nilsl] [(0,2,(.t 8)),(2,1,(.t 10))]) [3,5],oo_ 12 (.call 157 [(.t 5),(.t 11)])
 [0,6,3],on_ (.store 3 (.t 4) (.t 12)) [7,7,0,1,2,3,4,5,6,7]]) .ret))
theorem o_fv:fnOf Tryz.prog o_ft=some (o_fu,[.cell 4 true 3],13,false):=by kernel_rfl

abbrev o_fw:FuncId:=207
def o_fx:C:=(.seq (.reg false [oo_ 1 (.box 48 (.t 0)) [],oo_ 2 (.new 48 [.nilsl,(.bool false)]) []]) (.seq (.reg false [oo_ 3 (.fa 1 (.t 1)) [],oo_ 4 (.load false 1 (.t 3)) [0],oo_ 5 (.un .not (.t 4)) [1],oo_ 6 (.fa 0 (.t 1))
 [],oo_ 7 (.load true 1 (.t 6)) [3],oo_ 8 (.call 294 [(.t 5),(.t 7)]) [2,4],on_ (.store 2 (.t 2) (.t 8)) [5,5,0,1,2,3,4,5]]) .ret))
theorem o_fy:fnOf Tryz.prog o_fw=some (o_fx,[.cell 2 true 2],9,false):=by kernel_rfl

abbrev o_fz:FuncId:=60
def o_g0:C:=(.seq (.reg false [oo_ 2 (.box 52 (.t 0)) [],oo_ 3 (.box 52 (.t 1)) [],oo_ 4 (.mv (.d (.int .i64 0))) []]) (.seq (.reg false [oo_ 10 (.fa 0 (.t 2)) [],oo_ 11 (.load true 11 (.t 10)) [0],oo_ 12 (.call 61 [(.t 11)])
 [1],om_ 9 12 [2],oo_ 13 (.ext (.t 9) 0) [3],oo_ 14 (.ext (.t 9) 1) [3],om_ 5 13 [4,2,0,1,2,3,4],om_ 6 14 [5,6,0,1,2,3,4,5,6]]) (.seq (.reg false [oo_ 16 (.fa 0 (.t 3)) [],oo_ 17 (.load true 11 (.t 16)) [0],oo_ 18 (.call
 61 [(.t 17)]) [1],om_ 15 18 [2],oo_ 19 (.ext (.t 15) 0) [3],oo_ 20 (.ext (.t 15) 1) [3],om_ 7 19 [4,2,0,1,2,3,4],om_ 8 20 [5,6,0,1,2,3,4,5,6]]) (.seq (.reg false [om_ 21 5 [],om_ 22 7 [],oo_ 23 (.call 62 [(.t 21),(.t
 22)]) [0,1],om_ 4 23 [2,2,0,1,2]]) .ret))))
theorem o_g1:fnOf Tryz.prog o_fz=some (o_g0,[.t 4],24,false):=by kernel_rfl

abbrev o_g2:FuncId:=62
def o_g3:C:=(.seq (.reg false [oo_ 4 (.mv (.d (.int .i64 0))) []]) (.seq (.seq (.reg false [om_ 9 0 [],oo_ 10 (.len (.t 9)) [0],oo_ 11 (.mv (.d (.int .i64 0))) []]) (.block 0 (.loop (.seq (.reg false [oo_ 12 (.bin .lss (.t 11) (.t
 10)) []]) (.seq (.cond (.t 12) .skip (.exit 0)) (.seq (.block 1 (.seq (.reg false [om_ 13 11 [],oo_ 14 (.ix 1 (.t 9) (.t 11)) [],oo_ 15 (.load false 1 (.t 14)) [1],om_ 5 13 [0,0,1,2],om_ 6 15 [2,3,0,1,2,3]]) (.seq (.seq
 (.reg false [om_ 16 5 [],om_ 17 1 [],oo_ 18 (.len (.t 17)) [1],oo_ 19 (.bin .geq (.t 16) (.t 18)) [0,2]]) (.cond (.t 19) (.seq (.reg false [oo_ 4 (.mv (.d (.int .i64 1))) []]) .ret) .skip)) (.seq (.reg false [om_ 20 1
 [],om_ 21 5 [],oo_ 22 (.ix 1 (.t 20) (.t 21)) [0,1],oo_ 23 (.load false 1 (.t 22)) [2],om_ 7 23 [3,0,1,2,3]]) (.seq (.reg false [om_ 24 6 [],om_ 25 7 [],oo_ 26 (.call 167 [(.t 24),(.t 25)]) [0,1],om_ 8 26 [2,2,0,1,2]])
 (.seq (.reg false [om_ 27 8 [],oo_ 28 (.bin .neq (.t 27) (.d (.int .i64 0))) [0]]) (.cond (.t 28) (.seq (.reg false [om_ 29 8 [],om_ 4 29 [0,0]]) .ret) .skip))))))) (.reg false [oo_ 30 (.bin .add (.t 11) (.d (.int .i64
 1))) [],om_ 11 30 [0]]))))))) (.seq (.seq (.reg false [om_ 31 0 [],oo_ 32 (.len (.t 31)) [0],om_ 33 1 [],oo_ 34 (.len (.t 33)) [2],oo_ 35 (.bin .lss (.t 32) (.t 34)) [1,3]]) (.cond (.t 35) (.seq (.reg false [oo_ 4 (.mv
 (.d (.int .i64 (-1)))) []]) .ret) .skip)) (.seq (.reg false [oo_ 4 (.mv (.d (.int .i64 0))) []]) .ret))))
theorem o_g4:fnOf Tryz.prog o_g2=some (o_g3,[.t 4],36,false):=by kernel_rfl

abbrev o_g5:FuncId:=27
def o_g6:C:=(.seq (.reg false [oo_ 3 (.box 29 (.t 0)) [],oo_ 4 (.box 31 (.t 1)) [],oo_ 5 (.box 31 (.t 2)) [],oo_ 6 (.mv (.d .nilsl)) [],oo_ 7 (.mv (.d (.int .i64 0))) [3]]) (.seq (.seq (.reg false [oo_ 9 (.load true 3 (.t 3))
 [],oo_ 10 (.load true 3 (.t 4)) [],oo_ 11 (.load true 3 (.t 5)) [],oo_ 12 (.bsl 31 3 2 [(.int .i64 0),(.int .i64 0),(.bool false),(.int .i64 0),(.int .i64 0),(.bool false)] [(0,3,(.t 10)),(3,3,(.t 11))]) [1,2],oo_ 13
 (.call 100 [(.t 9),(.t 12)]) [0,3],om_ 8 13 [4,4,0,1,2,3,4]]) (.seq (.reg false [om_ 14 8 [],oo_ 15 (.bin .neq (.t 14) (.d (.int .i64 0))) [0]]) (.cond (.t 15) (.seq (.reg false [om_ 16 8 [],oo_ 6 (.mv (.d .nilsl))
 [],om_ 7 16 [0,1,0,1]]) .ret) .skip))) (.seq (.reg false [oo_ 17 (.load true 3 (.t 3)) [],oo_ 18 (.load true 3 (.t 4)) [],oo_ 19 (.load true 3 (.t 5)) [],oo_ 20 (.call 101 [(.t 17),(.t 18),(.t 19)]) [0,1,2],oo_ 21
 (.call 102 [(.t 20)]) [3,3],om_ 6 21 [4,4,0,1,2,3,4],oo_ 7 (.mv (.d (.int .i64 0))) [5,0,1,2,3,4,5]]) .ret)))
theorem o_g7:fnOf Tryz.prog o_g5=some (o_g6,[.t 6,.t 7],22,false):=by kernel_rfl

abbrev o_g8:FuncId:=100
def o_g9:C:=(.seq (.reg false [oo_ 2 (.box 29 (.t 0)) [],oo_ 4 (.mv (.d (.int .i64 0))) []]) (.seq (.seq (.reg false [oo_ 6 (.load true 3 (.t 2)) [],om_ 7 1 [],oo_ 8 (.call 150 [(.t 6),(.t 7)]) [0,1],om_ 5 8 [2,2,0,1,2]]) (.seq
 (.reg false [om_ 9 5 [],oo_ 10 (.bin .neq (.t 9) (.d (.int .i64 0))) [0]]) (.cond (.t 10) (.seq (.reg false [om_ 11 5 [],om_ 4 11 [0,0]]) .ret) .skip))) (.seq (.seq (.reg false [oo_ 12 (.load true 3 (.t 2)) [],oo_ 13
 (.call 151 [(.t 12)]) [0],oo_ 14 (.bin .mul (.d (.int .i64 4)) (.t 13)) [1],oo_ 15 (.bin .gtr (.t 14) (.d (.int .i64 512))) [2]]) (.cond (.t 15) (.seq (.reg false [oo_ 4 (.mv (.d (.int .i64 12))) []]) .ret) .skip))
 (.seq (.reg false [oo_ 4 (.mv (.d (.int .i64 0))) []]) .ret))))
theorem o_ga:fnOf Tryz.prog o_g8=some (o_g9,[.t 4],16,false):=by kernel_rfl

abbrev o_gb:FuncId:=101
def o_gc:C:=(.seq (.reg false [oo_ 3 (.box 29 (.t 0)) [],oo_ 4 (.box 31 (.t 1)) [],oo_ 5 (.box 31 (.t 2)) [],oo_ 6 (.mv .bad) []]) (.seq (.seq (.reg false [oo_ 14 (.fa 0 (.t 3)) [],oo_ 15 (.load false 1 (.t 14)) [0],oo_ 16 (.bin
 .neq (.t 15) (.d (.int .i64 4))) [1]]) (.cond (.t 16) (.seq (.reg false [oo_ 17 (.load true 3 (.t 3)) [],oo_ 18 (.load true 3 (.t 4)) [],oo_ 19 (.load true 3 (.t 5)) [],oo_ 20 (.call 212 [(.t 17),(.t 18),(.t 19)])
 [0,1,2],om_ 6 20 [3,3,0,1,2,3]]) .ret) .skip)) (.seq (.reg true [oo_ 21 (.load true 3 (.t 4)) [],oo_ 22 (.fa 1 (.t 5)) [],oo_ 23 (.load false 1 (.t 22)) [1],oo_ 24 (.fa 1 (.t 4)) [],oo_ 25 (.load false 1 (.t 24))
 [3],oo_ 26 (.bin .sub (.t 23) (.t 25)) [2,4],oo_ 27 (.call 213 [(.t 21),(.t 26)]) [0,5],oo_ 28 (.load true 3 (.t 5)) [],oo_ 29 (.fa 1 (.t 4)) [],oo_ 30 (.load false 1 (.t 29)) [8],oo_ 31 (.fa 1 (.t 5)) [],oo_ 32 (.load
 false 1 (.t 31)) [10],oo_ 33 (.bin .sub (.t 30) (.t 32)) [9,11],oo_ 34 (.call 213 [(.t 28),(.t 33)]) [7,12,6],om_ 7 27 [6,13,0,1,2,3,4,5,6],om_ 8 34 [13,14,0,1,2,3,4,5,6,7,8,9,10,11,12,13,14]]) (.seq (.reg false [oo_ 35
 (.mkm 1000391) [],om_ 9 35 [0,0]]) (.seq (.seq (.reg false [om_ 36 7 [],oo_ 37 (.call 102 [(.t 36)]) [0],oo_ 38 (.len (.t 37)) [1],oo_ 39 (.mv (.d (.int .i64 0))) []]) (.block 0 (.loop (.seq (.reg false [oo_ 40 (.bin
 .lss (.t 39) (.t 38)) []]) (.seq (.cond (.t 40) .skip (.exit 0)) (.seq (.block 1 (.seq (.reg false [oo_ 41 (.ix 6 (.t 37) (.t 39)) [],oo_ 42 (.load true 6 (.t 41)) [0],oo_ 11 (.new 154 [(.int .i64 0),(.int .i64
 0),(.bool false),.nilsl,(.bool false),.nilsl]) [],on_ (.store 6 (.t 11) (.t 42)) [2,1,0,1,2]]) (.seq (.reg false [om_ 43 8 [],oo_ 44 (.call 102 [(.t 43)]) [0],oo_ 45 (.len (.t 44)) [1],oo_ 46 (.mv (.d (.int .i64 0)))
 []]) (.block 2 (.loop (.seq (.reg false [oo_ 47 (.bin .lss (.t 46) (.t 45)) []]) (.seq (.cond (.t 47) .skip (.exit 2)) (.seq (.block 3 (.seq (.reg false [oo_ 48 (.ix 6 (.t 44) (.t 46)) [],oo_ 49 (.load true 6 (.t 48))
 [0],oo_ 13 (.new 154 [(.int .i64 0),(.int .i64 0),(.bool false),.nilsl,(.bool false),.nilsl]) [],on_ (.store 6 (.t 13) (.t 49)) [2,1,0,1,2]]) (.reg true [om_ 50 9 [],oo_ 51 (.fa 0 (.t 11)) [],oo_ 52 (.fa 0 (.t 51))
 [1],oo_ 53 (.load false 1 (.t 52)) [2],oo_ 54 (.fa 0 (.t 13)) [],oo_ 55 (.fa 0 (.t 54)) [4],oo_ 56 (.load false 1 (.t 55)) [5],oo_ 57 (.bin .add (.t 53) (.t 56)) [3,6],oo_ 58 (.fa 0 (.t 11)) [],oo_ 59 (.fa 1 (.t 58))
 [8],oo_ 60 (.load false 1 (.t 59)) [9],oo_ 61 (.fa 2 (.t 4)) [],oo_ 62 (.load false 1 (.t 61)) [11],om_ 63 62 [12],og_ 64 (.fa 2 (.t 5)) 63 false [13],og_ 65 (.load false 1 (.t 64)) 63 false [14,13],oo_ 66 (.pick (.t
 63) (.d (.bool true)) (.t 65)) [13,15],oo_ 67 (.build [(.int .i64 0),(.int .i64 0),(.bool false)] [(0,1,(.t 57)),(1,1,(.t 60)),(2,1,(.t 66))]) [7,10,16],oo_ 68 (.fa 3 (.t 11)) [],oo_ 69 (.load true 3 (.t 68)) [18],oo_
 70 (.fa 3 (.t 13)) [],oo_ 71 (.load true 3 (.t 70)) [20],oo_ 72 (.call 190 [(.t 69),(.t 71)]) [19,21,13],oo_ 73 (.call 214 [(.t 50),(.t 67),(.t 72)]) [0,17,22,22]]))) (.reg false [oo_ 74 (.bin .add (.t 46) (.d (.int
 .i64 1))) [],om_ 46 74 [0]]))))))))) (.reg false [oo_ 75 (.bin .add (.t 39) (.d (.int .i64 1))) [],om_ 39 75 [0]]))))))) (.seq (.reg false [om_ 76 9 [],oo_ 77 (.mkf (.func 215) [(.t 3)]) [],oo_ 78 (.call 153 [(.t
 76),(.t 77)]) [0,1],om_ 6 78 [2,2,0,1,2]]) .ret))))))
theorem o_gd:fnOf Tryz.prog o_gb=some (o_gc,[.t 6],79,false):=by kernel_rfl

abbrev o_ge:FuncId:=212
def o_gf:C:=(.seq (.reg false [oo_ 3 (.box 29 (.t 0)) [],oo_ 4 (.box 31 (.t 1)) [],oo_ 5 (.box 31 (.t 2)) [],oo_ 6 (.mv .bad) []]) (.seq (.reg false [oo_ 11 (.load true 3 (.t 4)) [],oo_ 12 (.call 152 [(.t 11)]) [0],om_ 7 12
 [1,1,0,1]]) (.seq (.seq (.reg false [oo_ 13 (.fa 0 (.t 5)) [],oo_ 14 (.load false 1 (.t 13)) [0],oo_ 15 (.mv (.d (.int .i64 0))) []]) (.block 0 (.loop (.seq (.reg false [oo_ 16 (.bin .lss (.t 15) (.t 14)) []]) (.seq
 (.cond (.t 16) .skip (.exit 0)) (.seq (.block 1 (.seq (.reg false [om_ 17 15 [],om_ 8 17 [0,0]]) (.seq (.reg false [oo_ 19 (.load true 3 (.t 3)) [],oo_ 20 (.call 268 [(.t 19)]) [0],om_ 21 8 [],oo_ 22 (.call 269 [(.t
 20),(.t 21)]) [1,2,1],om_ 18 22 [3],oo_ 23 (.ext (.t 18) 0) [4],oo_ 24 (.ext (.t 18) 1) [4],oo_ 9 (.new 50 [.nilsl,(.bool false),.nilsl]) [],on_ (.store 3 (.t 9) (.t 23)) [7,5,3,0,1,2,3,4,5,7],om_ 10 24
 [6,8,0,1,2,3,4,5,6,7,8]]) (.reg false [om_ 25 7 [],oo_ 26 (.mkf (.func 312) [(.t 3),(.t 9)]) [],oo_ 27 (.call 153 [(.t 25),(.t 26)]) [0,1],om_ 7 27 [2,2,0,1,2]])))) (.reg false [oo_ 28 (.bin .add (.t 15) (.d (.int .i64
 1))) [],om_ 15 28 [0]]))))))) (.seq (.reg false [om_ 29 7 [],oo_ 30 (.mkf (.func 313) [(.t 5)]) [],oo_ 31 (.call 153 [(.t 29),(.t 30)]) [0,1],om_ 6 31 [2,2,0,1,2]]) .ret))))
theorem o_gg:fnOf Tryz.prog o_ge=some (o_gf,[.t 6],32,false):=by kernel_rfl

abbrev o_gh:FuncId:=313
def o_gi:C:=(.seq (.reg false [oo_ 2 (.box 31 (.t 0)) [],oo_ 3 (.mv .bad) []]) (.seq (.reg false [oo_ 4 (.fa 2 (.t 2)) [],oo_ 5 (.load false 1 (.t 4)) [0],om_ 6 5 [1],og_ 7 (.fa 2 (.t 1)) 6 false [2],og_ 8 (.load false 1 (.t 7)) 6
 false [3,2],oo_ 9 (.pick (.t 6) (.d (.bool true)) (.t 8)) [2,4],oo_ 10 (.fa 2 (.t 2)) [0,1,2,3,4,5],on_ (.store 1 (.t 10) (.t 9)) [6,5,2,0,1,2,3,4,5]]) (.seq (.reg false [oo_ 11 (.load true 3 (.t 2)) [],oo_ 12 (.call
 152 [(.t 11)]) [0],om_ 3 12 [1,1,0,1]]) .ret)))
theorem o_gj:fnOf Tryz.prog o_gh=some (o_gi,[.t 3],13,false):=by kernel_rfl

abbrev o_gk:FuncId:=32
def o_gl:C:=(.seq (.reg false [oo_ 2 (.mv (.d .nilsl)) []]) (.seq (.seq (.reg false [om_ 3 0 [],oo_ 4 (.snl false (.t 3)) [0]]) (.cond (.t 4) (.seq (.reg false [oo_ 2 (.mv (.d .nilsl)) []]) .ret) .skip)) (.seq (.reg false [oo_ 5
 (.bsl0) [],om_ 6 0 [],oo_ 7 (.app 4 1 1 (.t 5) (.t 6)) [0,1],om_ 2 7 [2,2,0,1,2]]) .ret)))
theorem o_gm:fnOf Tryz.prog o_gk=some (o_gl,[.t 2],8,false):=by kernel_rfl

abbrev o_gn:FuncId:=39
def o_go:C:=(.seq (.reg false [oo_ 4 (.box 126 (.t 0)) [],oo_ 5 (.box 40 (.t 1)) [],oo_ 6 (.box 123 (.t 2)) [],oo_ 7 (.box 123 (.t 3)) [],oo_ 8 (.new 123 [(.int .i64 0),(.bool false)]) [],oo_ 9 (.mv (.d (.int .i64 0))) []]) (.seq
 (.seq (.reg false [oo_ 15 (.load true 3 (.t 4)) [],oo_ 16 (.fa 0 (.t 6)) [],oo_ 17 (.load false 1 (.t 16)) [1],oo_ 18 (.fa 0 (.t 7)) [],oo_ 19 (.load false 1 (.t 18)) [3],oo_ 20 (.bsl 3 1 2 [(.int .i64 0),(.int .i64 0)]
 [(0,1,(.t 17)),(1,1,(.t 19))]) [2,4],oo_ 21 (.call 126 [(.t 15),(.t 20)]) [0,5],om_ 10 21 [6,6,0,1,2,3,4,5,6]]) (.seq (.reg false [om_ 22 10 [],oo_ 23 (.bin .neq (.t 22) (.d (.int .i64 0))) [0]]) (.cond (.t 23) (.seq
 (.reg false [oo_ 24 (.load true 2 (.t 6)) [],om_ 25 10 [],on_ (.store 2 (.t 8) (.t 24)) [0,0],om_ 9 25 [1,2,0,1,2]]) .ret) .skip))) (.seq (.reg false [oo_ 26 (.load true 3 (.t 4)) [],oo_ 27 (.call 127 [(.t 26)]) [0],oo_
 11 (.new 267 [.nilifc]) [],on_ (.store 1 (.t 11) (.t 27)) [2,1,1,0,1,2]]) (.seq (.reg false [oo_ 28 (.load true 2 (.t 6)) [],oo_ 12 (.new 123 [(.int .i64 0),(.bool false)]) [],on_ (.store 2 (.t 12) (.t 28))
 [1,0,0,1],oo_ 13 (.mv (.d (.int .i64 0))) [2,0,1,2]]) (.seq (.seq (.reg false [oo_ 29 (.fa 0 (.t 7)) [],oo_ 30 (.load false 1 (.t 29)) [0],oo_ 31 (.mv (.d (.int .i64 0))) []]) (.block 0 (.loop (.seq (.reg false [oo_ 32
 (.bin .lss (.t 31) (.t 30)) []]) (.seq (.cond (.t 32) .skip (.exit 0)) (.seq (.block 1 (.seq (.reg false [om_ 33 31 [],oo_ 14 (.new 3 [(.int .i64 0)]) [],on_ (.store 1 (.t 14) (.t 33)) [1,0,0,1]]) (.seq (.reg false [oo_
 35 (.load true 3 (.t 4)) [],oo_ 36 (.load true 2 (.t 12)) [],oo_ 37 (.mkf (.func 129) [(.t 11),(.t 5),(.t 14)]) [],oo_ 38 (.call 128 [(.t 35),(.t 36),(.t 37)]) [0,1,2],om_ 34 38 [3],oo_ 39 (.ext (.t 34) 0) [4],oo_ 40
 (.ext (.t 34) 1) [4],on_ (.store 2 (.t 12) (.t 39)) [5,3,0,1,2,3,4,5],om_ 13 40 [6,7,0,1,2,3,4,5,6,7]]) (.seq (.reg false [om_ 41 13 [],oo_ 42 (.bin .neq (.t 41) (.d (.int .i64 0))) [0]]) (.cond (.t 42) (.seq (.reg
 false [oo_ 43 (.load true 2 (.t 6)) [],om_ 44 13 [],on_ (.store 2 (.t 8) (.t 43)) [0,0],om_ 9 44 [1,2,0,1,2]]) .ret) .skip))))) (.reg false [oo_ 45 (.bin .add (.t 31) (.d (.int .i64 1))) [],om_ 31 45 [0]]))))))) (.seq
 (.reg false [oo_ 46 (.fa 1 (.t 12)) [],oo_ 47 (.load false 1 (.t 46)) [0],om_ 48 47 [1],og_ 49 (.fa 1 (.t 7)) 48 false [2],og_ 50 (.load false 1 (.t 49)) 48 false [3,2],oo_ 51 (.pick (.t 48) (.d (.bool true)) (.t 50))
 [2,4],oo_ 52 (.fa 1 (.t 12)) [0,1,2,3,4,5],on_ (.store 1 (.t 52) (.t 51)) [6,5,2,0,1,2,3,4,5]]) (.seq (.reg false [oo_ 53 (.load true 2 (.t 12)) [],on_ (.store 2 (.t 8) (.t 53)) [0,0],oo_ 9 (.mv (.d (.int .i64 0)))
 [1,0,1]]) .ret)))))))
theorem o_gp:fnOf Tryz.prog o_gn=some (o_go,[.cell 8 true 2,.t 9],54,false):=by kernel_rfl

abbrev o_gq:FuncId:=41
def o_gr:C:=(.seq (.reg false [oo_ 1 (.box 123 (.t 0)) [],oo_ 2 (.new 31 [(.int .i64 0),(.int .i64 0),(.bool false)]) []]) (.seq (.reg false [oo_ 3 (.fa 0 (.t 1)) [],oo_ 4 (.load false 1 (.t 3)) [0],oo_ 5 (.fa 1 (.t 1)) [],oo_ 6
 (.load false 1 (.t 5)) [2],oo_ 7 (.build [(.int .i64 0),(.int .i64 0),(.bool false)] [(0,1,(.t 4)),(2,1,(.t 6))]) [1,3],on_ (.store 3 (.t 2) (.t 7)) [4,0,1,2,3,4]]) .ret))
theorem o_gs:fnOf Tryz.prog o_gq=some (o_gr,[.cell 2 true 3],8,false):=by kernel_rfl

abbrev o_gt:FuncId:=3
def o_gu:C:=(.seq (.reg false [oo_ 6 (.mv (.d (.bool false))) []]) (.seq (.seq (.reg false [oo_ 23 (.call 5 []) [],oo_ 24 (.un .not (.t 23)) [0]]) (.cond (.t 24) (.seq (.reg false [oo_ 6 (.mv (.d (.bool false))) []]) .ret) .skip))
 (.seq (.reg false [om_ 26 0 [],oo_ 27 (.build [(.int .i64 0),(.int .i64 0),(.int .i64 0),(.int .i64 0),(.int .i64 0),(.int .i64 0),(.bool false),.nilp,.nilp,.nilp,.nilp] [(0,1,(.t 26))]) [0],oo_ 28 (.call 6 [(.t 27),(.d
 (.int .i64 0)),(.d (.int .i64 1))]) [1],om_ 25 28 [2],oo_ 29 (.ext (.t 25) 0) [3],oo_ 30 (.ext (.t 25) 1) [3],om_ 7 29 [4,2,0,1,2,3,4],om_ 8 30 [5,6,0,1,2,3,4,5,6]]) (.seq (.reg false [om_ 32 0 [],oo_ 33 (.build [(.int
 .i64 0),(.int .i64 0),(.int .i64 0),(.int .i64 0),(.int .i64 0),(.int .i64 0),(.bool false),.nilp,.nilp,.nilp,.nilp] [(0,1,(.t 32))]) [0],om_ 34 1 [],om_ 35 2 [],oo_ 36 (.call 7 [(.t 33),(.t 34),(.t 35)]) [1,2,3],om_ 31
 36 [4],oo_ 37 (.ext (.t 31) 0) [5],oo_ 38 (.ext (.t 31) 1) [5],om_ 9 37 [6,4,0,1,2,3,4,5,6],om_ 10 38 [7,8,0,1,2,3,4,5,6,7,8]]) (.seq (.reg false [oo_ 39 (.build [(.int .i64 0),(.int .i64 0),(.int .i64 0),(.int .i64
 0),(.int .i64 0),(.int .i64 0),(.bool false),.nilp,.nilp,.nilp,.nilp] [(0,1,(.d (.int .i64 1)))]) [],oo_ 11 (.new 37 [(.int .i64 0),(.int .i64 0),(.int .i64 0),(.int .i64 0),(.int .i64 0),(.int .i64 0),(.bool
 false),.nilp,.nilp,.nilp,.nilp]) [],on_ (.store 11 (.t 11) (.t 39)) [1,0,0,1]]) (.seq (.reg false [oo_ 40 (.fa 1 (.t 11)) [],oo_ 41 (.fa 0 (.t 40)) [0],on_ (.store 1 (.t 41) (.d (.int .i64 2))) [1],oo_ 42 (.fa 1 (.t
 11)) [0,1,2],oo_ 43 (.fa 1 (.t 42)) [3,0,1,2],on_ (.store 1 (.t 43) (.d (.int .i64 1))) [4,2,0,1,2],oo_ 44 (.fa 1 (.t 11)) [0,1,2,3,4,5],oo_ 45 (.fa 2 (.t 44)) [6,0,1,2,3,4,5],on_ (.store 1 (.t 45) (.d (.int .i64 3)))
 [7,5,0,1,2,3,4,5]]) (.seq (.reg false [oo_ 47 (.load true 11 (.t 11)) [],om_ 48 0 [],oo_ 49 (.build [(.int .i64 0),(.int .i64 0),(.int .i64 0),(.int .i64 0),(.int .i64 0),(.int .i64 0),(.bool
 false),.nilp,.nilp,.nilp,.nilp] [(0,1,(.t 48))]) [1],oo_ 50 (.call 8 [(.t 47),(.t 49)]) [0,2],om_ 46 50 [3],oo_ 51 (.ext (.t 46) 0) [4],oo_ 52 (.ext (.t 46) 1) [4],om_ 12 51 [5,3,0,1,2,3,4,5],om_ 13 52
 [6,7,0,1,2,3,4,5,6,7]]) (.seq (.reg false [oo_ 54 (.load true 11 (.t 11)) [],om_ 55 1 [],om_ 56 2 [],oo_ 57 (.call 7 [(.t 54),(.t 55),(.t 56)]) [0,1,2],om_ 53 57 [3],oo_ 58 (.ext (.t 53) 0) [4],oo_ 59 (.ext (.t 53) 1)
 [4],om_ 14 58 [5,3,0,1,2,3,4,5],om_ 15 59 [6,7,0,1,2,3,4,5,6,7]]) (.seq (.reg false [oo_ 61 (.load true 11 (.t 11)) [],om_ 62 2 [],oo_ 63 (.mm true [(.d (.int .i64 17)),(.t 62)]) [1],oo_ 64 (.call 6 [(.t 61),(.d (.int
 .i64 0)),(.t 63)]) [0,2],om_ 60 64 [3],oo_ 65 (.ext (.t 60) 0) [4],oo_ 66 (.ext (.t 60) 1) [4],om_ 16 65 [5,3,0,1,2,3,4,5],om_ 17 66 [6,7,0,1,2,3,4,5,6,7]]) (.seq (.reg false [oo_ 68 (.load true 11 (.t 11)) [],oo_ 69
 (.load true 11 (.t 11)) [],oo_ 70 (.call 8 [(.t 68),(.t 69)]) [0,1],om_ 67 70 [2],oo_ 71 (.ext (.t 67) 0) [3],oo_ 72 (.ext (.t 67) 1) [3],om_ 18 71 [4,2,0,1,2,3,4],om_ 19 72 [5,6,0,1,2,3,4,5,6]]) (.seq (.reg false [oo_
 73 (.call 9 [(.d .nilsl)]) [],om_ 20 73 [0,0,0]]) (.seq (.reg false [oo_ 75 (.fa 1 (.t 11)) [],oo_ 76 (.load true 3 (.t 75)) [0],om_ 77 20 [],oo_ 78 (.fa 4 (.t 11)) [],oo_ 79 (.load true 3 (.t 78)) [3],oo_ 80 (.fa 4 (.t
 11)) [],oo_ 81 (.load true 3 (.t 80)) [5],oo_ 82 (.call 10 [(.t 76),(.t 77),(.t 79),(.t 81)]) [1,2,4,6],om_ 74 82 [7],oo_ 83 (.ext (.t 74) 0) [8],oo_ 84 (.ext (.t 74) 1) [8],oo_ 21 (.new 31 [(.int .i64 0),(.int .i64
 0),(.bool false)]) [],on_ (.store 3 (.t 21) (.t 83)) [11,9,7,0,1,2,3,4,5,6,7,8,9,11],om_ 22 84 [10,12,0,1,2,3,4,5,6,7,8,9,10,11,12]]) (.seq (.reg true [om_ 85 8 [],oo_ 86 (.bin .eql (.t 85) (.d (.int .i64 1))) [0],om_
 87 86 [1],og_ 88 (.mv (.t 10)) 87 true [2],og_ 89 (.bin .eql (.t 88) (.d (.int .i64 1))) 87 true [3,2],oo_ 90 (.pick (.t 87) (.t 89) (.d (.bool false))) [2,4],om_ 91 90 [5,2],og_ 92 (.mv (.t 13)) 91 true [6],og_ 93
 (.bin .eql (.t 92) (.d (.int .i64 1))) 91 true [7,6],oo_ 94 (.pick (.t 91) (.t 93) (.d (.bool false))) [6,8],om_ 95 94 [9,6],og_ 96 (.mv (.t 15)) 95 true [10],og_ 97 (.bin .eql (.t 96) (.d (.int .i64 10))) 95 true
 [11,10],oo_ 98 (.pick (.t 95) (.t 97) (.d (.bool false))) [10,12],om_ 99 98 [13,10],og_ 100 (.mv (.t 17)) 99 true [14],og_ 101 (.bin .eql (.t 100) (.d (.int .i64 12))) 99 true [15,14],og_ 102 (.mv (.t 101)) 99 true
 [16,14,14],og_ 103 (.mv (.t 2)) 102 false [17],og_ 104 (.bin .gtr (.t 103) (.d (.int .i64 1048576))) 102 false [18,17],og_ 105 (.mv (.t 104)) 102 false [19,17,17],og_ 106 (.mv (.t 17)) 105 true [20],og_ 107 (.bin .eql
 (.t 106) (.d (.int .i64 2))) 105 true [21,20],og_ 108 (.pick (.t 105) (.t 107) (.d (.bool false))) 102 false [20,22,17],og_ 109 (.pick (.t 102) (.d (.bool true)) (.t 108)) 99 true [17,23,14],oo_ 110 (.pick (.t 99) (.t
 109) (.d (.bool false))) [14,24],om_ 111 110 [25,20],og_ 112 (.mv (.t 19)) 111 true [26],og_ 113 (.bin .eql (.t 112) (.d (.int .i64 0))) 111 true [27,26],oo_ 114 (.pick (.t 111) (.t 113) (.d (.bool false))) [26,28],om_
 115 114 [29,26],og_ 116 (.mv (.t 22)) 115 true [30],og_ 117 (.bin .eql (.t 116) (.d (.int .i64 0))) 115 true [31,30],oo_ 118 (.pick (.t 115) (.t 117) (.d (.bool false))) [30,32],om_ 119 118 [33,30],og_ 120 (.mv (.t 18))
 119 true [34],og_ 121 (.len (.t 120)) 119 true [35,34],og_ 122 (.bin .eql (.t 121) (.d (.int .i64 1))) 119 true [36,34],oo_ 123 (.pick (.t 119) (.t 122) (.d (.bool false))) [34,37],om_ 124 123 [38,34],og_ 125 (.mv (.t
 18)) 124 true [39],og_ 126 (.ix 14 (.t 125) (.d (.int .i64 0))) 124 true [40,39],og_ 127 (.fa 0 (.t 126)) 124 true [41,39],og_ 128 (.fa 4 (.t 127)) 124 true [42,39],og_ 129 (.load true 3 (.t 128)) 124 true [43,39],og_
 130 (.load true 3 (.t 21)) 124 true [39],og_ 131 (.aeq false [0,0,1] (.t 129) (.t 130)) 124 true [44,45,39],oo_ 132 (.pick (.t 124) (.t 131) (.d (.bool false))) [39,46],om_ 6 132
 [47,39,0,1,2,3,4,5,6,7,8,9,10,11,12,13,14,15,16,17,18,19,20,21,22,23,24,25,26,27,28,29,30,31,32,33,34,35,36,37,38,39,40,41,42,43,44,45,46,47]]) .ret)))))))))))))
theorem o_gv:fnOf Tryz.prog o_gt=some (o_gu,[.t 6],133,false):=by kernel_rfl

abbrev o_gw:FuncId:=5
def o_gx:C:=(.seq (.reg false [oo_ 0 (.mv (.d (.bool false))) []]) (.seq (.reg false [oo_ 4 (.build [(.int .i64 0),(.int .i64 0),(.int .i64 0),(.int .i64 0),(.int .i64 0),(.int .i64 0),(.bool false),.nilp,.nilp,.nilp,.nilp]
 [(0,1,(.d (.int .i64 1)))]) [],oo_ 1 (.new 37 [(.int .i64 0),(.int .i64 0),(.int .i64 0),(.int .i64 0),(.int .i64 0),(.int .i64 0),(.bool false),.nilp,.nilp,.nilp,.nilp]) [],on_ (.store 11 (.t 1) (.t 4)) [1,0,0,1]])
 (.seq (.reg false [oo_ 5 (.fa 1 (.t 1)) [],oo_ 6 (.fa 0 (.t 5)) [0],on_ (.store 1 (.t 6) (.d (.int .i64 2))) [1],oo_ 7 (.fa 1 (.t 1)) [0,1,2],oo_ 8 (.fa 1 (.t 7)) [3,0,1,2],on_ (.store 1 (.t 8) (.d (.int .i64 0)))
 [4,2,0,1,2],oo_ 9 (.fa 1 (.t 1)) [0,1,2,3,4,5],oo_ 10 (.fa 2 (.t 9)) [6,0,1,2,3,4,5],on_ (.store 1 (.t 10) (.d (.int .i64 3))) [7,5,0,1,2,3,4,5]]) (.seq (.reg false [oo_ 11 (.fa 4 (.t 1)) [],oo_ 12 (.fa 0 (.t 11))
 [0],on_ (.store 1 (.t 12) (.d (.int .i64 1))) [1]]) (.seq (.reg false [oo_ 14 (.load true 11 (.t 1)) [],oo_ 15 (.call 6 [(.t 14),(.d (.int .i64 0)),(.d (.int .i64 1))]) [0],om_ 13 15 [1],oo_ 16 (.ext (.t 13) 0) [2],oo_
 17 (.ext (.t 13) 1) [2],om_ 2 16 [3,1,0,1,2,3],om_ 3 17 [4,5,0,1,2,3,4,5]]) (.seq (.reg true [om_ 18 3 [],oo_ 19 (.bin .eql (.t 18) (.d (.int .i64 0))) [0],om_ 20 19 [1],og_ 21 (.mv (.t 2)) 20 true [2],og_ 22 (.len (.t
 21)) 20 true [3,2],og_ 23 (.bin .eql (.t 22) (.d (.int .i64 2))) 20 true [4,2],oo_ 24 (.pick (.t 20) (.t 23) (.d (.bool false))) [2,5],om_ 25 24 [6,2],og_ 26 (.mv (.t 2)) 25 true [7],og_ 27 (.ix 14 (.t 26) (.d (.int
 .i64 0))) 25 true [8,7],og_ 28 (.fa 11 (.t 27)) 25 true [9,7],og_ 29 (.load true 3 (.t 28)) 25 true [10,7],og_ 30 (.call 15 [(.t 29)]) 25 true [11,7,7],⟨some 31,.bin .eql (.t 30) (.d (.str ⟨#[49,47,50]⟩)),some
 (25,true),[12,7]⟩,oo_ 32 (.pick (.t 25) (.t 31) (.d (.bool false))) [7,13],om_ 33 32 [14,12],og_ 34 (.mv (.t 2)) 33 true [15],og_ 35 (.ix 14 (.t 34) (.d (.int .i64 1))) 33 true [16,15],og_ 36 (.fa 11 (.t 35)) 33 true
 [17,15],og_ 37 (.load true 3 (.t 36)) 33 true [18,15],og_ 38 (.call 15 [(.t 37)]) 33 true [19,15,15],⟨some 39,.bin .eql (.t 38) (.d (.str ⟨#[49,47,50]⟩)),some (33,true),[20,15]⟩,oo_ 40 (.pick (.t 33) (.t 39) (.d (.bool
 false))) [15,21],om_ 41 40 [22,20],og_ 42 (.mv (.t 2)) 41 true [23],og_ 43 (.ix 14 (.t 42) (.d (.int .i64 0))) 41 true [24,23],og_ 44 (.fa 0 (.t 43)) 41 true [25,23],og_ 45 (.fa 4 (.t 44)) 41 true [26,23],og_ 46 (.fa 0
 (.t 45)) 41 true [27,23],og_ 47 (.load false 1 (.t 46)) 41 true [28,23],og_ 48 (.mv (.t 2)) 41 true [23],og_ 49 (.ix 14 (.t 48) (.d (.int .i64 1))) 41 true [30,23],og_ 50 (.fa 0 (.t 49)) 41 true [31,23],og_ 51 (.fa 4
 (.t 50)) 41 true [32,23],og_ 52 (.fa 0 (.t 51)) 41 true [33,23],og_ 53 (.load false 1 (.t 52)) 41 true [34,23],og_ 54 (.bin .add (.t 47) (.t 53)) 41 true [29,35,23],og_ 55 (.bin .eql (.t 54) (.d (.int .i64 3))) 41 true
 [36,23],oo_ 56 (.pick (.t 41) (.t 55) (.d (.bool false))) [23,37],om_ 0 56 [38,23,0,1,2,3,4,5,6,7,8,9,10,11,12,13,14,15,16,17,18,19,20,21,22,23,24,25,26,27,28,29,30,31,32,33,34,35,36,37,38]]) .ret))))))
theorem o_gy:fnOf Tryz.prog o_gw=some (o_gx,[.t 0],57,false):=by kernel_rfl

abbrev o_gz:FuncId:=7
def o_h0:C:=(.seq (.reg false [oo_ 3 (.box 37 (.t 0)) [],oo_ 6 (.mv (.d .nilsl)) [],oo_ 7 (.mv (.d (.int .i64 0))) [1]]) (.seq (.seq (.reg false [oo_ 9 (.load true 11 (.t 3)) [],oo_ 10 (.call 16 [(.t 9)]) [0],om_ 8 10 [1,1,0,1]])
 (.seq (.reg false [om_ 11 8 [],oo_ 12 (.bin .neq (.t 11) (.d (.int .i64 0))) [0]]) (.cond (.t 12) (.seq (.reg false [om_ 13 8 [],oo_ 6 (.mv (.d .nilsl)) [],om_ 7 13 [0,1,0,1]]) .ret) .skip))) (.seq (.seq (.reg false
 [oo_ 14 (.fa 0 (.t 3)) [],oo_ 15 (.load false 1 (.t 14)) [0]]) (.block 0 (.seq (.reg false [oo_ 17 (.bin .eql (.t 15) (.d (.int .i64 4))) [],om_ 16 17 [0]]) (.cond (.t 16) (.seq (.reg false [oo_ 18 (.fa 9 (.t 3)) [],oo_
 19 (.load false 1 (.t 18)) [0],om_ 20 1 [],om_ 21 2 [],oo_ 22 (.call 25 [(.t 19),(.t 20),(.t 21)]) [1,2,3],oo_ 23 (.ext (.t 22) 0) [4],oo_ 24 (.ext (.t 22) 1) [4],oo_ 25 (.call 19 [(.t 23),(.t 24)]) [5,6,4],oo_ 26 (.ext
 (.t 25) 0) [7],oo_ 27 (.ext (.t 25) 1) [7],om_ 6 26 [8,7,0,1,2,3,4,5,6,7,8,9],om_ 7 27 [9,10,0,1,2,3,4,5,6,7,8,9,10]]) .ret) (.seq (.reg false [oo_ 29 (.bin .eql (.t 15) (.d (.int .i64 5))) [],om_ 28 29 [0]]) (.cond (.t
 28) (.seq (.reg false [oo_ 30 (.fa 10 (.t 3)) [],oo_ 31 (.load false 1 (.t 30)) [0],om_ 32 1 [],oo_ 33 (.call 26 [(.t 31),(.t 32)]) [1,2],oo_ 34 (.ext (.t 33) 0) [3],oo_ 35 (.ext (.t 33) 1) [3],oo_ 36 (.call 19 [(.t
 34),(.t 35)]) [4,5,3],oo_ 37 (.ext (.t 36) 0) [6],oo_ 38 (.ext (.t 36) 1) [6],om_ 6 37 [7,6,0,1,2,3,4,5,6,7,8],om_ 7 38 [8,9,0,1,2,3,4,5,6,7,8,9]]) .ret) .skip)))))) (.seq (.reg false [oo_ 6 (.mv (.d .nilsl)) [],oo_ 7
 (.mv (.d (.int .i64 10))) [0,0]]) .ret))))
theorem o_h1:fnOf Tryz.prog o_gz=some (o_h0,[.t 6,.t 7],39,false):=by kernel_rfl

abbrev o_h2:FuncId:=8
def o_h3:C:=(.seq (.reg false [oo_ 2 (.box 37 (.t 0)) [],oo_ 3 (.box 37 (.t 1)) [],oo_ 4 (.mv (.d .nilsl)) [],oo_ 5 (.mv (.d (.int .i64 0))) [2]]) (.seq (.seq (.reg false [oo_ 16 (.load true 11 (.t 2)) [],oo_ 17 (.load true 11 (.t
 3)) [],oo_ 18 (.bsl 37 11 2 [(.int .i64 0),(.int .i64 0),(.int .i64 0),(.int .i64 0),(.int .i64 0),(.int .i64 0),(.bool false),.nilp,.nilp,.nilp,.nilp,(.int .i64 0),(.int .i64 0),(.int .i64 0),(.int .i64 0),(.int .i64
 0),(.int .i64 0),(.bool false),.nilp,.nilp,.nilp,.nilp] [(0,11,(.t 16)),(11,11,(.t 17))]) [0,1],oo_ 19 (.len (.t 18)) [2],oo_ 20 (.mv (.d (.int .i64 0))) []]) (.block 0 (.loop (.seq (.reg false [oo_ 21 (.bin .lss (.t
 20) (.t 19)) []]) (.seq (.cond (.t 21) .skip (.exit 0)) (.seq (.block 1 (.seq (.reg false [oo_ 22 (.ix 11 (.t 18) (.t 20)) [],oo_ 23 (.load true 11 (.t 22)) [0],oo_ 7 (.new 37 [(.int .i64 0),(.int .i64 0),(.int .i64
 0),(.int .i64 0),(.int .i64 0),(.int .i64 0),(.bool false),.nilp,.nilp,.nilp,.nilp]) [],on_ (.store 11 (.t 7) (.t 23)) [2,1,0,1,2]]) (.seq (.reg false [oo_ 24 (.load true 11 (.t 7)) [],oo_ 25 (.call 16 [(.t 24)])
 [0],om_ 8 25 [1,1,0,1]]) (.seq (.reg false [om_ 26 8 [],oo_ 27 (.bin .neq (.t 26) (.d (.int .i64 0))) [0]]) (.cond (.t 27) (.seq (.reg false [om_ 28 8 [],oo_ 4 (.mv (.d .nilsl)) [],om_ 5 28 [0,1,0,1]]) .ret) .skip)))))
 (.reg false [oo_ 29 (.bin .add (.t 20) (.d (.int .i64 1))) [],om_ 20 29 [0]]))))))) (.seq (.block 2 (.seq (.reg false [oo_ 31 (.fa 0 (.t 2)) [],oo_ 32 (.load false 1 (.t 31)) [0],oo_ 33 (.fa 0 (.t 3)) [],oo_ 34 (.load
 false 1 (.t 33)) [2],oo_ 35 (.bin .neq (.t 32) (.t 34)) [1,3],om_ 30 35 [4]]) (.cond (.t 30) .skip (.seq (.reg false [oo_ 37 (.fa 0 (.t 2)) [],oo_ 38 (.load false 1 (.t 37)) [0],oo_ 39 (.bin .eql (.t 38) (.d (.int .i64
 1))) [1],om_ 40 39 [2],og_ 41 (.fa 1 (.t 2)) 40 true [3],og_ 42 (.load true 3 (.t 41)) 40 true [4,3],og_ 43 (.fa 1 (.t 3)) 40 true [3],og_ 44 (.load true 3 (.t 43)) 40 true [6,3],og_ 45 (.aeq false [0,0,0] (.t 42) (.t
 44)) 40 true [5,7,3],oo_ 46 (.pick (.t 40) (.t 45) (.d (.bool false))) [3,8],om_ 36 46 [9,3]]) (.cond (.t 36) (.seq (.reg false [oo_ 48 (.fa 1 (.t 2)) [],oo_ 49 (.load true 3 (.t 48)) [0],oo_ 50 (.fa 4 (.t 2)) [],oo_ 51
 (.load true 3 (.t 50)) [2],oo_ 52 (.fa 4 (.t 3)) [],oo_ 53 (.load true 3 (.t 52)) [4],oo_ 54 (.call 27 [(.t 49),(.t 51),(.t 53)]) [1,3,5],om_ 47 54 [6],oo_ 55 (.ext (.t 47) 0) [7],oo_ 56 (.ext (.t 47) 1) [7],om_ 9 55
 [8,6,0,1,2,3,4,5,6,7,8],om_ 10 56 [9,10,0,1,2,3,4,5,6,7,8,9,10]]) (.seq (.reg false [oo_ 57 (.fa 1 (.t 2)) [],oo_ 58 (.load true 3 (.t 57)) [0],om_ 59 9 [],om_ 60 10 [],oo_ 61 (.call 20 [(.t 58),(.t 59),(.t 60)])
 [1,2,3],oo_ 62 (.ext (.t 61) 0) [4],oo_ 63 (.ext (.t 61) 1) [4],oo_ 64 (.call 19 [(.t 62),(.t 63)]) [5,6,4],oo_ 65 (.ext (.t 64) 0) [7],oo_ 66 (.ext (.t 64) 1) [7],om_ 4 65 [8,7,0,1,2,3,4,5,6,7,8,9],om_ 5 66
 [9,10,0,1,2,3,4,5,6,7,8,9,10]]) .ret)) (.seq (.reg true [oo_ 68 (.fa 0 (.t 2)) [],oo_ 69 (.load false 1 (.t 68)) [0],oo_ 70 (.bin .eql (.t 69) (.d (.int .i64 2))) [1],om_ 71 70 [2],og_ 72 (.fa 7 (.t 2)) 71 true [3],og_
 73 (.load false 1 (.t 72)) 71 true [4,3],og_ 74 (.call 22 [(.t 73)]) 71 true [5,3,3],og_ 75 (.fa 7 (.t 3)) 71 true [3],og_ 76 (.load false 1 (.t 75)) 71 true [7,3],og_ 77 (.call 22 [(.t 76)]) 71 true [8,6,3],og_ 78
 (.aeq false [0,0,0] (.t 74) (.t 77)) 71 true [6,9,3],oo_ 79 (.pick (.t 71) (.t 78) (.d (.bool false))) [3,10],om_ 80 79 [11,9],og_ 81 (.fa 7 (.t 2)) 80 true [12],og_ 82 (.load false 1 (.t 81)) 80 true [13,12],og_ 83
 (.chk (.t 82)) 80 true [14,12],og_ 84 (.fa 0 (.t 83)) 80 true [15,12],og_ 85 (.load false 1 (.t 84)) 80 true [16,12],og_ 86 (.call 28 [(.t 85)]) 80 true [17,12,12],og_ 87 (.fa 7 (.t 3)) 80 true [12],og_ 88 (.load false
 1 (.t 87)) 80 true [19,12],og_ 89 (.chk (.t 88)) 80 true [20,12],og_ 90 (.fa 0 (.t 89)) 80 true [21,12],og_ 91 (.load false 1 (.t 90)) 80 true [22,12],og_ 92 (.call 28 [(.t 91)]) 80 true [23,18,12],og_ 93 (.bin .eql (.t
 86) (.t 92)) 80 true [18,24,12],oo_ 94 (.pick (.t 80) (.t 93) (.d (.bool false))) [12,25],om_ 67 94 [26,24]]) (.cond (.t 67) (.seq (.reg false [oo_ 96 (.fa 7 (.t 2)) [],oo_ 97 (.load false 1 (.t 96)) [0],oo_ 98 (.fa 7
 (.t 3)) [],oo_ 99 (.load false 1 (.t 98)) [2],oo_ 100 (.call 29 [(.t 97),(.t 99)]) [1,3],om_ 95 100 [4],oo_ 101 (.ext (.t 95) 0) [5],oo_ 102 (.ext (.t 95) 1) [5],om_ 11 101 [6,4,0,1,2,3,4,5,6],om_ 12 102
 [7,8,0,1,2,3,4,5,6,7,8]]) (.seq (.seq (.reg false [om_ 103 12 [],oo_ 104 (.bin .neq (.t 103) (.d (.int .i64 0))) [0]]) (.cond (.t 104) (.seq (.reg false [om_ 105 12 [],oo_ 4 (.mv (.d .nilsl)) [],om_ 5 105 [0,1,0,1]])
 .ret) .skip)) (.seq (.reg false [oo_ 13 (.mv (.d .nilsl)) []]) (.seq (.seq (.reg false [om_ 106 11 [],oo_ 107 (.chk (.t 106)) [0],oo_ 108 (.fa 0 (.t 107)) [1],oo_ 109 (.load false 1 (.t 108)) [2],oo_ 110 (.len (.t 109))
 [3],oo_ 111 (.mv (.d (.int .i64 0))) []]) (.block 3 (.loop (.seq (.reg false [oo_ 112 (.bin .lss (.t 111) (.t 110)) []]) (.seq (.cond (.t 112) .skip (.exit 3)) (.seq (.block 4 (.seq (.reg false [oo_ 113 (.ix 4 (.t 109)
 (.t 111)) [],oo_ 114 (.load true 4 (.t 113)) [0],oo_ 15 (.new 85 [.nilp,.nilsl,(.bool false),.nilsl]) [],on_ (.store 4 (.t 15) (.t 114)) [2,1,0,1,2]]) (.reg false [om_ 115 13 [],oo_ 116 (.fa 0 (.t 15)) [],oo_ 117 (.load
 false 1 (.t 116)) [1],oo_ 118 (.build [(.int .i64 0),(.int .i64 0),(.int .i64 0),(.int .i64 0),(.int .i64 0),(.int .i64 0),(.bool false),.nilp,.nilp,.nilp,.nilp] [(0,1,(.d (.int .i64 2))),(7,1,(.t 117))]) [2],oo_ 119
 (.fa 1 (.t 15)) [],oo_ 120 (.load true 3 (.t 119)) [4],oo_ 121 (.build [(.int .i64 0),(.int .i64 0),(.int .i64 0),(.int .i64 0),(.int .i64 0),(.int .i64 0),(.bool false),.nilp,.nilp,.nilp,.nilp,.nilsl,(.bool
 false),.nilsl] [(0,11,(.t 118)),(11,3,(.t 120))]) [3,5],oo_ 122 (.bsl 87 14 1 [(.int .i64 0),(.int .i64 0),(.int .i64 0),(.int .i64 0),(.int .i64 0),(.int .i64 0),(.bool false),.nilp,.nilp,.nilp,.nilp,.nilsl,(.bool
 false),.nilsl] [(0,14,(.t 121))]) [6],oo_ 123 (.app 87 14 144 (.t 115) (.t 122)) [0,7],om_ 13 123 [8,8,0,1,2,3,4,5,6,7,8]]))) (.reg false [oo_ 124 (.bin .add (.t 111) (.d (.int .i64 1))) [],om_ 111 124 [0]]))))))) (.seq
 (.reg false [om_ 125 13 [],oo_ 126 (.call 19 [(.t 125),(.d (.int .i64 0))]) [0],oo_ 127 (.ext (.t 126) 0) [1],oo_ 128 (.ext (.t 126) 1) [1],om_ 4 127 [2,1,0,1,2,3],om_ 5 128 [3,4,0,1,2,3,4]]) .ret))))) (.seq (.reg false
 [oo_ 130 (.fa 0 (.t 2)) [],oo_ 131 (.load false 1 (.t 130)) [0],oo_ 132 (.bin .eql (.t 131) (.d (.int .i64 3))) [1],om_ 129 132 [2]]) (.cond (.t 129) (.seq (.reg false [oo_ 133 (.fa 8 (.t 2)) [],oo_ 134 (.load false 1
 (.t 133)) [0],oo_ 135 (.fa 8 (.t 3)) [],oo_ 136 (.load false 1 (.t 135)) [2],oo_ 137 (.call 30 [(.t 134),(.t 136)]) [1,3],oo_ 138 (.ext (.t 137) 0) [4],oo_ 139 (.ext (.t 137) 1) [4],oo_ 140 (.call 19 [(.t 138),(.t
 139)]) [5,6,4],oo_ 141 (.ext (.t 140) 0) [7],oo_ 142 (.ext (.t 140) 1) [7],om_ 4 141 [8,7,0,1,2,3,4,5,6,7,8,9],om_ 5 142 [9,10,0,1,2,3,4,5,6,7,8,9,10]]) .ret) (.seq (.reg false [oo_ 144 (.fa 0 (.t 2)) [],oo_ 145 (.load
 false 1 (.t 144)) [0],oo_ 146 (.bin .eql (.t 145) (.d (.int .i64 4))) [1],om_ 143 146 [2]]) (.cond (.t 143) (.seq (.reg false [oo_ 147 (.fa 9 (.t 2)) [],oo_ 148 (.load false 1 (.t 147)) [0],oo_ 149 (.fa 9 (.t 3)) [],oo_
 150 (.load false 1 (.t 149)) [2],oo_ 151 (.call 31 [(.t 148),(.t 150)]) [1,3],oo_ 152 (.ext (.t 151) 0) [4],oo_ 153 (.ext (.t 151) 1) [4],oo_ 154 (.call 19 [(.t 152),(.t 153)]) [5,6,4],oo_ 155 (.ext (.t 154) 0) [7],oo_
 156 (.ext (.t 154) 1) [7],om_ 4 155 [8,7,0,1,2,3,4,5,6,7,8,9],om_ 5 156 [9,10,0,1,2,3,4,5,6,7,8,9,10]]) .ret) .skip))))))))))) (.seq (.reg false [oo_ 4 (.mv (.d .nilsl)) [],oo_ 5 (.mv (.d (.int .i64 10))) [0,0]])
 .ret))))
theorem o_h4:fnOf Tryz.prog o_h2=some (o_h3,[.t 4,.t 5],157,false):=by kernel_rfl

abbrev o_h5:FuncId:=9
def o_h6:C:=(.seq (.reg false [oo_ 2 (.mv (.d .nilp)) []]) (.seq (.reg false [om_ 3 0 [],om_ 4 0 [],oo_ 5 (.len (.t 4)) [1],oo_ 6 (.mm false [(.t 5),(.d (.int .i64 1048576))]) [2],oo_ 7 (.slice 1 (.t 3) none (some (.t 6)) none)
 [0,3],oo_ 8 (.call 32 [(.t 7)]) [4],oo_ 9 (.build [(.int .i64 0),(.bool false),.nilsl] [(2,1,(.t 8))]) [5],oo_ 10 (.box 111 (.t 9)) [6],om_ 2 10 [7,5,0,1,2,3,4,5,6,7]]) .ret))
theorem o_h7:fnOf Tryz.prog o_h5=some (o_h6,[.t 2],11,false):=by kernel_rfl

abbrev o_h8:FuncId:=10
def o_h9:C:=(.seq (.reg false [oo_ 4 (.box 29 (.t 0)) [],oo_ 6 (.box 31 (.t 2)) [],oo_ 7 (.box 31 (.t 3)) [],oo_ 8 (.new 31 [(.int .i64 0),(.int .i64 0),(.bool false)]) [],oo_ 9 (.mv (.d (.int .i64 0))) []]) (.seq (.seq (.reg false
 [oo_ 15 (.load true 3 (.t 4)) [],oo_ 16 (.load true 3 (.t 6)) [],oo_ 17 (.load true 3 (.t 7)) [],oo_ 18 (.bsl 31 3 2 [(.int .i64 0),(.int .i64 0),(.bool false),(.int .i64 0),(.int .i64 0),(.bool false)] [(0,3,(.t
 16)),(3,3,(.t 17))]) [1,2],oo_ 19 (.call 33 [(.t 15),(.t 18)]) [0,3],om_ 10 19 [4,4,0,1,2,3,4]]) (.seq (.reg false [om_ 20 10 [],oo_ 21 (.bin .neq (.t 20) (.d (.int .i64 0))) [0]]) (.cond (.t 21) (.seq (.reg false [oo_
 22 (.load true 3 (.t 6)) [],om_ 23 10 [],on_ (.store 3 (.t 8) (.t 22)) [0,0],om_ 9 23 [1,2,0,1,2]]) .ret) .skip))) (.seq (.seq (.reg false [oo_ 24 (.fa 0 (.t 4)) [],oo_ 25 (.load false 1 (.t 24)) [0],oo_ 26 (.bin .eql
 (.t 25) (.d (.int .i64 4))) [1]]) (.cond (.t 26) (.seq (.reg true [oo_ 28 (.load true 3 (.t 4)) [],oo_ 29 (.call 34 [(.t 28)]) [0],om_ 30 1 [],oo_ 31 (.load true 3 (.t 6)) [],oo_ 32 (.call 36 [(.t 31)]) [3,1],oo_ 33
 (.load true 3 (.t 7)) [],oo_ 34 (.call 36 [(.t 33)]) [5,4],oo_ 35 (.call 35 [(.t 29),(.t 30),(.t 32),(.t 34)]) [1,2,4,6,6],om_ 27 35 [7],oo_ 36 (.ext (.t 27) 0) [8],oo_ 37 (.ext (.t 27) 1) [8],oo_ 11 (.new 114 [(.int
 .i64 0),(.int .i64 0),(.bool false)]) [],on_ (.store 3 (.t 11) (.t 36)) [11,9,7,0,1,2,3,4,5,6,7,8,9,11],om_ 12 37 [10,12,0,1,2,3,4,5,6,7,8,9,10,11,12]]) (.seq (.reg false [oo_ 38 (.load true 3 (.t 11)) [],oo_ 39 (.call
 37 [(.t 38)]) [0],om_ 40 12 [],on_ (.store 3 (.t 8) (.t 39)) [1,1,0,1],om_ 9 40 [2,3,0,1,2,3]]) .ret)) .skip)) (.seq (.reg true [oo_ 42 (.load true 3 (.t 4)) [],oo_ 43 (.call 38 [(.t 42)]) [0],om_ 44 1 [],oo_ 45 (.load
 true 3 (.t 6)) [],oo_ 46 (.call 40 [(.t 45)]) [3,1],oo_ 47 (.load true 3 (.t 7)) [],oo_ 48 (.call 40 [(.t 47)]) [5,4],oo_ 49 (.call 39 [(.t 43),(.t 44),(.t 46),(.t 48)]) [1,2,4,6,6],om_ 41 49 [7],oo_ 50 (.ext (.t 41) 0)
 [8],oo_ 51 (.ext (.t 41) 1) [8],oo_ 13 (.new 123 [(.int .i64 0),(.bool false)]) [],on_ (.store 2 (.t 13) (.t 50)) [11,9,7,0,1,2,3,4,5,6,7,8,9,11],om_ 14 51 [10,12,0,1,2,3,4,5,6,7,8,9,10,11,12]]) (.seq (.reg false [oo_
 52 (.load true 2 (.t 13)) [],oo_ 53 (.call 41 [(.t 52)]) [0],om_ 54 14 [],on_ (.store 3 (.t 8) (.t 53)) [1,1,0,1],om_ 9 54 [2,3,0,1,2,3]]) .ret)))))
theorem o_ha:fnOf Tryz.prog o_h8=some (o_h9,[.cell 8 true 3,.t 9],55,false):=by kernel_rfl

abbrev o_hb:FuncId:=460
abbrev o_hc:FuncId:=463
abbrev o_hd:FuncId:=464
abbrev o_he:FuncId:=465
abbrev o_hf:FuncId:=254
theorem o_hg:Tryz.prog.funcs[o_hf]?=some Tryz.f254:=Tryz.func254
abbrev o_hh:FuncId:=293
theorem o_hi:Tryz.prog.funcs[o_hh]?=some Tryz.f293:=Tryz.func293
end
section
def small (ws:List Nat):Prop:=∀x∈ws,x<18446744073709551616

theorem small.take {ws:List Nat} (h:small ws) (n:Nat):small (ws.take n):=fun x hx=>h x (List.mem_of_mem_take hx)

theorem small.getD {l:List Nat} (h:small l) (n:Nat):l.getD n 0<18446744073709551616:=by
 by_cases hn:n<l.length
 ·rw [List.getD,List.getElem?_eq_getElem hn];exact h _ (List.getElem_mem hn)
 ·simp [List.getD,List.getElem?_eq_none (show l.length≤n by omega)]
end
section
open Go.RowKit
def W (ws:List Nat):D:=.sl ws.length (ws.map fun x:Nat=>.int .u64 x)

def wordsF:Nat→Nat→List Nat
 | 0,_=>[]
 | f+1,n=>if n=0 then [] else (n%18446744073709551616)::wordsF f (n/18446744073709551616)
def words (n:Nat):List Nat:=wordsF n n

def size (n:Nat):Nat:=(words n).length

theorem o_hj (n:Nat) (l:List D) (hl:l.length=n) (hn:n≤4000000000):Eqn Tryz.prog o_6t [.d (.sl n l)] [] (.d (.sl n l)) []:=by
 refine Eqn.pure o_6v (o_5o _) ?_
 simp only [o_6u]
 rcases Nat.eq_zero_or_pos n with rfl | h0
 ·have:l=[]:=List.eq_nil_of_length_eq_zero hl
  subst this
  refine AW.empty 0 rfl ?_ ?_
  ·simp
   refine G0 ?_;try with_reducible exact tt
   refine AW.cond rfl (fun h=>?_) (fun h=>?_)
   ·refine G0 ?_;try with_reducible exact tt
    exact Sub1.nil
   ·simp at h
  ·simp
   refine G0 ?_;try with_reducible exact tt
   refine AW.cond rfl (fun h=>?_) (fun h=>?_)
   ·simp at h
   ·refine G0 ?_;try with_reducible exact tt
    exact Sub1.sl0
 ·refine G1 h0 ?_;try with_reducible exact tt
  refine AW.cond rfl (fun h=>?_) (fun h=>?_)
  ·simp at h
  ·refine G0 ?_;try with_reducible exact tt
   have h1:¬n=0:=by omega
   simp [h1,hl]
   refine need.of (by omega) ?_
   refine AW.freeze 0 1 ⟨22,l.map .d⟩ l (by simp) rfl ?_
   simp
   refine G0 ?_;try with_reducible exact tt
   have:l.take n=l:=List.take_of_length_le (by omega)
   simp [this]
end
section
open Go.RowKit
theorem o_hk (x y c s d:Nat) (hx:x<18446744073709551616) (hy:y<18446744073709551616) (hc:c≤1) (hs:s<18446744073709551616) (e:x+y+c=s+18446744073709551616*d):Eqn Tryz.prog o_hf [.d (.int .u64 x),.d (.int .u64 y),.d (.int .u64 c)] [] (.tup [.d (.int .u64 s),.d (.int .u64 d)]) []:=by
 refine Eqn.extern o_hg (by kernel_rfl) (by kernel_rfl) (by kernel_rfl) (e:=add64Entry) (by kernel_rfl) rfl fun m vs h=>?_
 obtain ⟨v1,r1,rfl,h1,h⟩:=V.reps_cons'.1 h
 obtain ⟨v2,r2,rfl,h2,h⟩:=V.reps_cons'.1 h
 obtain ⟨v3,r3,rfl,h3,h⟩:=V.reps_cons'.1 h
 simp at h;subst h
 rw [V.rep_int] at h1 h2 h3
 subst h1 h2 h3
 have:=run_add64 (P:=Tryz.prog) x y c (by omega) (by omega) (by omega) (by omega) m.w
 refine ⟨_,this,?_⟩
 unfold V.rep
 refine ⟨[.int .u64 (((x:Int)+y+c)%18446744073709551616),.int .u64 (((x:Int)+y+c)/18446744073709551616)],rfl,?_⟩
 simp only [V.reps_cons,V.rep_int,V.reps_nil,and_true]
 constructor<;>congr 1<;>omega

theorem o_hl (x y c s d:Nat) (hx:x<18446744073709551616) (hy:y<18446744073709551616) (hc:c≤1) (hs:s<18446744073709551616) (e:x+18446744073709551616*d=s+y+c):Eqn Tryz.prog o_hh [.d (.int .u64 x),.d (.int .u64 y),.d (.int .u64 c)] [] (.tup [.d (.int .u64 s),.d (.int .u64 d)]) []:=by
 refine Eqn.extern o_hi (by kernel_rfl) (by kernel_rfl) (by kernel_rfl) (e:=sub64Entry) (by kernel_rfl) rfl fun m vs h=>?_
 obtain ⟨v1,r1,rfl,h1,h⟩:=V.reps_cons'.1 h
 obtain ⟨v2,r2,rfl,h2,h⟩:=V.reps_cons'.1 h
 obtain ⟨v3,r3,rfl,h3,h⟩:=V.reps_cons'.1 h
 simp at h;subst h
 rw [V.rep_int] at h1 h2 h3
 subst h1 h2 h3
 have:=run_sub64 (P:=Tryz.prog) x y c hc m.w
 refine ⟨_,this,?_⟩
 unfold V.rep
 refine ⟨[.int .u64 s,.int .u64 d],?_,by simp only [V.reps_cons,V.rep_int,V.reps_nil,and_true]⟩
 congr 4
 ·omega
 ·congr 2
  split<;>omega

theorem o_hm (l:List D):(V.tup (l.map .d)).plain:=by
 have h1:V.lowl 0 (l.map V.d)=true:=by induction l<;>simp_all [V.lowl,V.low]
 have h2:∀θ,V.rens θ (l.map V.d)=l.map V.d:=fun θ=>by induction l<;>simp_all [V.rens,V.ren]
 exact ⟨by simp [V.low,h1],fun θ=>by simp [V.ren,h2]⟩

@[simp] theorem o_hn (l:List V):Subs l l↔True:=iff_true_intro (Subs.refl l)
theorem o_ho (a b:D):(V.tup [.d a,.d b]).plain:=o_hm [a,b]
end
section
open Go.RowKit
section
variable {P:Program} {L:Nat} {Q:Exit→List V→List (Option Ob)→Prop} {T:List V} {H:List (Option Ob)} {x:C}
def AWu (P:Program) (L:Nat) (x:C) (Q:Exit→List V→List (Option Ob)→Prop):Nat→List V→List (Option Ob)→Prop
 | 0,_,_=>False
 | n+1,T,H=>AW P L x (thenQ (AWu P L x Q n) Q) T H
theorem AW.rounds (n:Nat) (h:AWu P L x Q n T H):AW P L (.loop x) Q T H:=by
 refine AW.loop (fun k T H=>AWu P L x Q k T H) n h fun k T H hk=>?_
 cases k with
 | zero=>exact hk.elim
 | succ k =>
  refine AW.mono hk fun e T' H' hq=>?_
  cases e<;>first | exact ⟨k,Nat.lt_succ_self k,hq⟩ | exact hq
theorem AWu.next {n:Nat} (h:AW P L x (thenQ (AWu P L x Q n) Q) T H):AWu P L x Q (n+1) T H:=h
end
theorem EqnD.sub {P:Program} {f:FuncId} {args args':List V} {Hs Hs':List Ob} {X:V} {dead:List Nat} (E:EqnD P f args' Hs X Hs' dead) (h:Subs args args'):EqnD P f args Hs X Hs' dead :=
 ⟨E.len,E.old,E.lowx,E.lowo,fun m vs hb hv=>E.run m vs hb (h m vs hv)⟩
end
end Go.Proofs.YtpobgdipcbglcaaGreatDoor.Am
