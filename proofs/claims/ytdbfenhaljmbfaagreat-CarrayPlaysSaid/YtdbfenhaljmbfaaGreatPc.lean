/- Parts of the proof: CodeD, WordsM. -/
import Derived.Test.YtdbfenhaljmbfaaGreatPb
namespace Go.Proofs.YtdbfenhaljmbfaaGreat.Am
section
set_option linter.unusedVariables false
set_option linter.unusedSimpArgs false
open Go.Proofs.YtdbfenhaljmbfaaGreat.Am
set_option maxRecDepth 100000

theorem mix : Tryz.prog.follows .mixedOrders = true := by kernel_rfl

abbrev t_nat_Nat : Nat := 91
abbrev t_tape_Tape : Nat := 114
/-- tallymark/tallymarklaw18.CarrayPlays -/
abbrev n_Tlaw18_CarrayPlays : FuncId := 6
def c_Tlaw18_CarrayPlays : C := (.seq (.reg false [⟨(some 3), .box 23 (.t 0), none, []⟩,
  ⟨(some 6), .mv (.d (.bool false)), none, []⟩])
(.seq (.seq (.reg false [⟨(some 23), .call 20 [], none, []⟩,
  ⟨(some 24), .un .not (.t 23), none, [0]⟩])
(.cond (.t 24)
 (.seq (.reg false [⟨(some 6), .mv (.d (.bool false)), none, []⟩])
 .ret)
 .skip))
(.seq (.reg false [⟨(some 26), .load true 3 (.t 3), none, []⟩,
  ⟨(some 27), .build [(.int .i64 0), (.int .i64 0), (.bool false)] [], none, []⟩,
  ⟨(some 28), .call 9 [(.t 26), (.t 27)], none, [0, 1]⟩,
  ⟨(some 25), .mv (.t 28), none, [2]⟩,
  ⟨(some 29), .ext (.t 25) 0, none, [3]⟩,
  ⟨(some 30), .ext (.t 25) 1, none, [3]⟩,
  ⟨none, .store 3 (.t 3) (.t 29), none, [4, 2, 0, 1, 2, 3, 4]⟩])
(.seq (.reg false [⟨(some 31), .mv (.t 2), none, []⟩,
  ⟨(some 32), .call 21 [(.t 31), (.d (.int .i64 200))], none, [0]⟩,
  ⟨(some 2), .mv (.t 32), none, [1, 1, 0, 1]⟩])
(.seq (.reg false [⟨(some 33), .load true 3 (.t 3), none, []⟩,
  ⟨(some 34), .call 10 [(.t 33)], none, [0]⟩,
  ⟨(some 7), .new 30 [(.int .i64 0), (.int .i64 0), (.int .i64 0)], none, []⟩,
  ⟨none, .store 3 (.t 7) (.t 34), none, [2, 1, 1, 0, 1, 2]⟩])
(.seq (.reg false [⟨(some 35), .mv (.t 1), none, []⟩,
  ⟨(some 36), .len (.t 35), none, [0]⟩,
  ⟨(some 37), .bin .rem (.t 36) (.d (.int .i64 7)), none, [1]⟩,
  ⟨(some 38), .bin .add (.d (.int .i64 1)) (.t 37), none, [2]⟩,
  ⟨(some 8), .mv (.t 38), none, [3, 0, 1, 2, 3]⟩])
(.seq (.reg false [⟨(some 40), .load true 3 (.t 7), none, []⟩,
  ⟨(some 41), .mv (.t 8), none, []⟩,
  ⟨(some 42), .call 11 [(.t 40), (.t 41)], none, [0, 1]⟩,
  ⟨(some 39), .mv (.t 42), none, [2]⟩,
  ⟨(some 43), .ext (.t 39) 0, none, [3]⟩,
  ⟨(some 44), .ext (.t 39) 1, none, [3]⟩,
  ⟨(some 9), .mv (.t 43), none, [4, 2, 0, 1, 2, 3, 4]⟩,
  ⟨(some 10), .mv (.t 44), none, [5, 6, 0, 1, 2, 3, 4, 5, 6]⟩])
(.seq (.seq (.reg true [⟨(some 45), .mv (.t 10), none, []⟩,
  ⟨(some 46), .bin .neq (.t 45) (.d (.int .i64 0)), none, [0]⟩,
  ⟨(some 47), .mv (.t 46), none, [1]⟩,
  ⟨(some 48), .mv (.t 9), some (47, false), [2]⟩,
  ⟨(some 49), .pnl false (.t 48), some (47, false), [3, 2]⟩,
  ⟨(some 50), .pick (.t 47) (.d (.bool true)) (.t 49), none, [2, 4]⟩,
  ⟨(some 51), .mv (.t 50), none, [5, 2]⟩,
  ⟨(some 52), .mv (.t 9), some (51, false), [6]⟩,
  ⟨(some 53), .call 28 [(.t 52)], some (51, false), [7, 6, 6]⟩,
  ⟨(some 54), .load true 3 (.t 7), some (51, false), [6]⟩,
  ⟨(some 55), .aeq true [0, 0, 0] (.t 53) (.t 54), some (51, false), [8, 9, 6]⟩,
  ⟨(some 56), .pick (.t 51) (.d (.bool true)) (.t 55), none, [6, 10]⟩])
(.cond (.t 56)
 (.seq (.reg false [⟨(some 6), .mv (.d (.bool false)), none, []⟩])
 .ret)
 .skip))
(.seq (.reg false [⟨(some 57), .mv (.t 8), none, []⟩,
  ⟨(some 58), .mksl 36 3 24 [(.int .i64 0), (.int .i64 0), (.bool false)] (.t 57) (.t 57), none, [0, 0]⟩,
  ⟨(some 11), .mv (.t 58), none, [1, 0, 1]⟩])
(.seq (.reg false [⟨(some 59), .mv (.t 2), none, []⟩,
  ⟨(some 60), .call 12 [(.t 59)], none, [0]⟩,
  ⟨(some 61), .mv (.t 2), none, []⟩,
  ⟨(some 62), .call 12 [(.t 61)], none, [2, 1]⟩,
  ⟨(some 12), .mv (.t 60), none, [1, 3, 0, 1]⟩,
  ⟨(some 13), .mv (.t 62), none, [3, 4, 0, 1, 2, 3, 4]⟩])
(.seq (.seq (.reg false [⟨(some 14), .mv (.d (.int .i64 0)), none, []⟩])
(.block 0 (.loop (.seq (.seq (.reg false [⟨(some 63), .mv (.t 14), none, []⟩,
  ⟨(some 64), .mv (.t 1), none, []⟩,
  ⟨(some 65), .len (.t 64), none, [1]⟩,
  ⟨(some 66), .bin .lss (.t 63) (.t 65), none, [0, 2]⟩,
  ⟨(some 67), .mv (.t 66), none, [3]⟩,
  ⟨(some 68), .mv (.t 14), some (67, true), [4]⟩,
  ⟨(some 69), .bin .lss (.t 68) (.d (.int .i64 30)), some (67, true), [5, 4]⟩,
  ⟨(some 70), .pick (.t 67) (.t 69) (.d (.bool false)), none, [4, 6]⟩])
(.cond (.t 70)
 .skip
 (.exit 0)))
(.seq (.block 1 (.seq (.reg false [⟨(some 73), .mv (.t 1), none, []⟩,
  ⟨(some 74), .mv (.t 14), none, []⟩,
  ⟨(some 75), .ix 6 (.t 73) (.t 74), none, [0, 1]⟩,
  ⟨(some 76), .load true 6 (.t 75), none, [2]⟩,
  ⟨(some 15), .new 66 [(.bool false), (.int .i64 0), (.int .i64 0), (.int .i64 0), (.int .i64 0), (.bool false)], none, []⟩,
  ⟨none, .store 6 (.t 15) (.t 76), none, [4, 3, 0, 1, 2, 3, 4]⟩])
(.seq (.reg false [⟨(some 77), .mv (.t 9), none, []⟩,
  ⟨(some 78), .call 25 [(.t 77)], none, [0]⟩,
  ⟨(some 16), .mv (.t 78), none, [1, 1, 0, 1]⟩])
(.seq (.reg false [⟨(some 79), .fa 1 (.t 15), none, []⟩,
  ⟨(some 80), .load false 1 (.t 79), none, [0]⟩,
  ⟨(some 81), .bin .geq (.t 80) (.d (.int .i64 0)), none, [1]⟩,
  ⟨(some 82), .mv (.t 81), none, [2]⟩,
  ⟨(some 83), .fa 1 (.t 15), some (82, true), [3]⟩,
  ⟨(some 84), .load false 1 (.t 83), some (82, true), [4, 3]⟩,
  ⟨(some 85), .mv (.t 8), some (82, true), [3]⟩,
  ⟨(some 86), .bin .lss (.t 84) (.t 85), some (82, true), [5, 6, 3]⟩,
  ⟨(some 87), .pick (.t 82) (.t 86) (.d (.bool false)), none, [3, 7]⟩,
  ⟨(some 17), .mv (.t 87), none, [8, 3, 0, 1, 2, 3, 4, 5, 6, 7, 8]⟩])
(.seq (.reg false [⟨(some 88), .bsl0, none, []⟩,
  ⟨(some 89), .mv (.t 11), none, []⟩,
  ⟨(some 90), .app 36 3 24 (.t 88) (.t 89), none, [0, 1]⟩,
  ⟨(some 18), .mv (.t 90), none, [2, 2, 0, 1, 2]⟩])
(.seq (.reg false [⟨(some 19), .mv (.d (.int .i64 0)), none, []⟩,
  ⟨(some 20), .mv (.d (.int .i64 0)), none, [0]⟩])
(.seq (.seq (.reg false [⟨(some 91), .fa 0 (.t 15), none, []⟩,
  ⟨(some 92), .load false 1 (.t 91), none, [0]⟩])
(.cond (.t 92)
 (.seq (.reg false [⟨(some 93), .fa 3 (.t 15), none, []⟩,
   ⟨(some 94), .load true 3 (.t 93), none, [0]⟩,
   ⟨(some 95), .call 29 [(.t 94)], none, [1]⟩,
   ⟨(some 21), .new 36 [(.int .i64 0), (.int .i64 0), (.bool false)], none, []⟩,
   ⟨none, .store 3 (.t 21) (.t 95), none, [3, 2, 2, 0, 1, 2, 3]⟩])
 (.seq (.reg false [⟨(some 96), .mv (.t 9), none, []⟩,
   ⟨(some 97), .fa 1 (.t 15), none, []⟩,
   ⟨(some 98), .load false 1 (.t 97), none, [1]⟩,
   ⟨(some 99), .load true 3 (.t 21), none, []⟩,
   ⟨(some 100), .call 27 [(.t 96), (.t 98), (.t 99)], none, [0, 2, 3]⟩,
   ⟨(some 19), .mv (.t 100), none, [4, 4, 0, 1, 2, 3, 4]⟩])
 (.block 2 (.seq (.reg false [⟨(some 107), .mv (.t 17), none, []⟩,
   ⟨(some 108), .un .not (.t 107), none, [0]⟩,
   ⟨(some 106), .mv (.t 108), none, [1]⟩])
 (.cond (.t 106)
  (.reg false [⟨(some 20), .mv (.d (.int .i64 1)), none, []⟩])
  (.seq (.reg false [⟨(some 110), .load true 3 (.t 7), none, []⟩,
    ⟨(some 111), .load true 3 (.t 21), none, []⟩,
    ⟨(some 112), .call 19 [(.t 110), (.t 111)], none, [0, 1]⟩,
    ⟨(some 113), .un .not (.t 112), none, [2]⟩,
    ⟨(some 109), .mv (.t 113), none, [3, 2]⟩])
  (.cond (.t 109)
   (.reg false [⟨(some 20), .mv (.d (.int .i64 2)), none, []⟩])
   (.reg false [⟨(some 101), .mv (.t 18), none, []⟩,
     ⟨(some 102), .fa 1 (.t 15), none, []⟩,
     ⟨(some 103), .load false 1 (.t 102), none, [1]⟩,
     ⟨(some 104), .load true 3 (.t 21), none, []⟩,
     ⟨(some 105), .ix 3 (.t 101) (.t 103), none, [0, 2, 0, 1, 2, 3]⟩,
     ⟨none, .store 3 (.t 105) (.t 104), none, [4, 3, 0, 1, 2, 3]⟩]))))))))
 (.seq (.reg false [⟨(some 114), .fa 2 (.t 15), none, []⟩,
   ⟨(some 115), .load false 1 (.t 114), none, [0]⟩,
   ⟨(some 116), .mm false [(.t 115), (.d (.int .i64 30))], none, [1]⟩,
   ⟨(some 22), .mv (.t 116), none, [2, 0, 1, 2]⟩])
 (.seq (.reg false [⟨(some 117), .mv (.t 9), none, []⟩,
   ⟨(some 118), .mv (.t 12), none, []⟩,
   ⟨(some 119), .fa 1 (.t 15), none, []⟩,
   ⟨(some 120), .load false 1 (.t 119), none, [2]⟩,
   ⟨(some 121), .mv (.t 22), none, []⟩,
   ⟨(some 122), .call 13 [(.t 117), (.t 118), (.t 120), (.t 121)], none, [0, 1, 3, 4]⟩,
   ⟨(some 19), .mv (.t 122), none, [5, 5, 0, 1, 2, 3, 4, 5]⟩])
 (.seq (.reg false [⟨(some 20), .mv (.d (.int .i64 1)), none, []⟩])
 (.seq (.reg false [⟨(some 123), .mv (.t 17), none, []⟩])
 (.cond (.t 123)
  (.reg true [⟨(some 125), .mv (.t 18), none, []⟩,
    ⟨(some 126), .fa 1 (.t 15), none, []⟩,
    ⟨(some 127), .load false 1 (.t 126), none, [1]⟩,
    ⟨(some 128), .load true 3 (.t 7), none, []⟩,
    ⟨(some 129), .mv (.t 13), none, []⟩,
    ⟨(some 130), .mv (.t 11), none, []⟩,
    ⟨(some 131), .fa 1 (.t 15), none, []⟩,
    ⟨(some 132), .load false 1 (.t 131), none, [6]⟩,
    ⟨(some 133), .ix 3 (.t 130) (.t 132), none, [5, 7]⟩,
    ⟨(some 134), .load true 3 (.t 133), none, [8]⟩,
    ⟨(some 135), .mv (.t 22), none, []⟩,
    ⟨(some 136), .call 14 [(.t 128), (.t 129), (.t 134), (.t 135)], none, [3, 4, 9, 10]⟩,
    ⟨(some 124), .mv (.t 136), none, [11]⟩,
    ⟨(some 137), .ext (.t 124) 0, none, [12]⟩,
    ⟨(some 138), .ext (.t 124) 1, none, [12]⟩,
    ⟨(some 139), .ix 3 (.t 125) (.t 127), none, [0, 2, 0, 1, 2, 3, 4, 5, 6, 7, 8, 9, 10, 11, 12, 13]⟩,
    ⟨none, .store 3 (.t 139) (.t 137), none, [15, 13, 11, 0, 1, 2, 3, 4, 5, 6, 7, 8, 9, 10, 11, 12, 13]⟩,
    ⟨(some 20), .mv (.t 138), none, [14, 16, 0, 1, 2, 3, 4, 5, 6, 7, 8, 9, 10, 11, 12, 13, 14, 15, 16]⟩])
  .skip)))))))
(.seq (.seq (.reg false [⟨(some 140), .mv (.t 19), none, []⟩,
  ⟨(some 141), .mv (.t 20), none, []⟩,
  ⟨(some 142), .bin .neq (.t 140) (.t 141), none, [0, 1]⟩,
  ⟨(some 143), .mv (.t 142), none, [2]⟩,
  ⟨(some 144), .mv (.t 16), some (143, false), [3]⟩,
  ⟨(some 145), .mv (.t 11), some (143, false), [3]⟩,
  ⟨(some 146), .call 24 [(.t 144), (.t 145)], some (143, false), [4, 5, 3, 3]⟩,
  ⟨(some 147), .un .not (.t 146), some (143, false), [6, 3]⟩,
  ⟨(some 148), .pick (.t 143) (.d (.bool true)) (.t 147), none, [3, 7]⟩,
  ⟨(some 149), .mv (.t 148), none, [8, 6]⟩,
  ⟨(some 150), .mv (.t 9), some (149, false), [9]⟩,
  ⟨(some 151), .mv (.t 18), some (149, false), [9]⟩,
  ⟨(some 152), .call 24 [(.t 150), (.t 151)], some (149, false), [10, 11, 9, 9]⟩,
  ⟨(some 153), .un .not (.t 152), some (149, false), [12, 9]⟩,
  ⟨(some 154), .pick (.t 149) (.d (.bool true)) (.t 153), none, [9, 13]⟩,
  ⟨(some 155), .mv (.t 154), none, [14, 12]⟩,
  ⟨(some 156), .mv (.t 12), some (155, false), [15]⟩,
  ⟨(some 157), .call 15 [(.t 156)], some (155, false), [16, 15, 15]⟩,
  ⟨(some 158), .mv (.t 13), some (155, false), [15]⟩,
  ⟨(some 159), .call 15 [(.t 158)], some (155, false), [18, 17, 15]⟩,
  ⟨(some 160), .bin .neq (.t 157) (.t 159), some (155, false), [17, 19, 15]⟩,
  ⟨(some 161), .pick (.t 155) (.d (.bool true)) (.t 160), none, [15, 20]⟩,
  ⟨(some 162), .mv (.t 161), none, [21, 19]⟩,
  ⟨(some 163), .mv (.t 9), some (162, false), [22]⟩,
  ⟨(some 164), .mv (.t 16), some (162, false), [22]⟩,
  ⟨(some 165), .call 26 [(.t 163), (.t 164)], some (162, false), [23, 24, 22, 22]⟩,
  ⟨(some 166), .mv (.t 11), some (162, false), [22]⟩,
  ⟨(some 167), .mv (.t 18), some (162, false), [22]⟩,
  ⟨(some 168), .call 30 [(.t 166), (.t 167)], some (162, false), [26, 27, 25, 22]⟩,
  ⟨(some 169), .beq true (.t 165) (.t 168), some (162, false), [25, 28, 22]⟩,
  ⟨(some 170), .pick (.t 162) (.d (.bool true)) (.t 169), none, [22, 29]⟩])
(.cond (.t 170)
 (.seq (.reg false [⟨(some 6), .mv (.d (.bool false)), none, []⟩])
 .ret)
 .skip))
(.reg false [⟨(some 171), .mv (.t 18), none, []⟩,
  ⟨(some 11), .mv (.t 171), none, [0, 0]⟩])))))))))
(.reg false [⟨(some 71), .mv (.t 14), none, []⟩,
  ⟨(some 72), .bin .add (.t 71) (.d (.int .i64 1)), none, [0]⟩,
  ⟨(some 14), .mv (.t 72), none, [1, 0, 1]⟩]))))))
(.seq (.reg false [⟨(some 6), .mv (.d (.bool true)), none, []⟩])
.ret))))))))))))
theorem r_Tlaw18_CarrayPlays : fnOf Tryz.prog n_Tlaw18_CarrayPlays = some (c_Tlaw18_CarrayPlays, [.t 6], 172, false) := by kernel_rfl

/-- tallymark/tallymarklaw17.Small -/
abbrev n_Tlaw17_Small : FuncId := 9
def c_Tlaw17_Small : C := (.seq (.reg false [⟨(some 2), .box 23 (.t 0), none, []⟩,
  ⟨(some 3), .box 27 (.t 1), none, []⟩,
  ⟨(some 4), .new 23 [(.int .i64 0), (.int .i64 0), (.int .i64 0)], none, []⟩,
  ⟨(some 5), .new 27 [(.int .i64 0), (.int .i64 0), (.bool false)], none, []⟩])
(.seq (.reg false [⟨(some 6), .fa 0 (.t 2), none, []⟩,
  ⟨(some 7), .load false 1 (.t 6), none, [0]⟩,
  ⟨(some 8), .bin .rem (.t 7) (.d (.int .i64 4)), none, [1]⟩,
  ⟨(some 9), .bin .add (.t 8) (.d (.int .i64 4)), none, [2]⟩,
  ⟨(some 10), .bin .rem (.t 9) (.d (.int .i64 4)), none, [3]⟩,
  ⟨(some 11), .bin .add (.d (.int .i64 1)) (.t 10), none, [4]⟩,
  ⟨(some 12), .fa 0 (.t 2), none, [0, 1, 2, 3, 4, 5]⟩,
  ⟨none, .store 1 (.t 12) (.t 11), none, [6, 5, 0, 1, 2, 3, 4, 5]⟩])
(.seq (.seq (.reg false [⟨(some 13), .fa 0 (.t 2), none, []⟩,
  ⟨(some 14), .load false 1 (.t 13), none, [0]⟩])
(.block 0 (.seq (.reg false [⟨(some 25), .bin .eql (.t 14) (.d (.int .i64 1)), none, []⟩,
  ⟨(some 24), .mv (.t 25), none, [0]⟩])
(.cond (.t 24)
 (.reg false [⟨(some 26), .fa 1 (.t 2), none, []⟩,
   ⟨(some 27), .load false 1 (.t 26), none, [0]⟩,
   ⟨(some 28), .bin .and (.t 27) (.d (.int .i64 3)), none, [1]⟩,
   ⟨(some 29), .bin .add (.d (.int .i64 1)) (.t 28), none, [2]⟩,
   ⟨(some 30), .fa 2 (.t 2), none, []⟩,
   ⟨(some 31), .load false 1 (.t 30), none, [4]⟩,
   ⟨(some 32), .bin .and (.t 31) (.d (.int .i64 255)), none, [5]⟩,
   ⟨(some 33), .bin .rem (.t 32) (.d (.int .i64 4)), none, [6]⟩,
   ⟨(some 34), .bin .add (.d (.int .i64 1)) (.t 33), none, [7]⟩,
   ⟨(some 35), .fa 1 (.t 2), none, [0, 1, 2, 3, 4, 5]⟩,
   ⟨none, .store 1 (.t 35) (.t 29), none, [9, 3, 0, 1, 2, 3, 4, 5]⟩,
   ⟨(some 36), .fa 2 (.t 2), none, [0, 1, 2, 3, 4, 5, 6, 7, 8, 9, 10]⟩,
   ⟨none, .store 1 (.t 36) (.t 34), none, [11, 8, 10, 0, 1, 2, 3, 4, 5, 6, 7, 8, 9, 10]⟩])
 (.seq (.reg false [⟨(some 38), .bin .eql (.t 14) (.d (.int .i64 2)), none, []⟩,
   ⟨(some 37), .mv (.t 38), none, [0]⟩])
 (.cond (.t 37)
  (.reg false [⟨(some 39), .fa 1 (.t 2), none, []⟩,
    ⟨(some 40), .load false 1 (.t 39), none, [0]⟩,
    ⟨(some 41), .bin .and (.t 40) (.d (.int .i64 1)), none, [1]⟩,
    ⟨(some 42), .fa 2 (.t 2), none, []⟩,
    ⟨(some 43), .load false 1 (.t 42), none, [3]⟩,
    ⟨(some 44), .bin .and (.t 43) (.d (.int .i64 255)), none, [4]⟩,
    ⟨(some 45), .bin .rem (.t 44) (.d (.int .i64 4)), none, [5]⟩,
    ⟨(some 46), .bin .add (.d (.int .i64 1)) (.t 45), none, [6]⟩,
    ⟨(some 47), .fa 1 (.t 2), none, [0, 1, 2, 3, 4]⟩,
    ⟨none, .store 1 (.t 47) (.t 41), none, [8, 2, 0, 1, 2, 3, 4]⟩,
    ⟨(some 48), .fa 2 (.t 2), none, [0, 1, 2, 3, 4, 5, 6, 7, 8, 9]⟩,
    ⟨none, .store 1 (.t 48) (.t 46), none, [10, 7, 9, 0, 1, 2, 3, 4, 5, 6, 7, 8, 9]⟩])
  (.seq (.reg false [⟨(some 50), .bin .eql (.t 14) (.d (.int .i64 3)), none, []⟩,
    ⟨(some 49), .mv (.t 50), none, [0]⟩])
  (.cond (.t 49)
   (.reg false [⟨(some 51), .fa 1 (.t 2), none, []⟩,
     ⟨(some 52), .load false 1 (.t 51), none, [0]⟩,
     ⟨(some 53), .bin .and (.t 52) (.d (.int .i64 1)), none, [1]⟩,
     ⟨(some 54), .bin .add (.d (.int .i64 1)) (.t 53), none, [2]⟩,
     ⟨(some 55), .fa 2 (.t 2), none, []⟩,
     ⟨(some 56), .load false 1 (.t 55), none, [4]⟩,
     ⟨(some 57), .bin .and (.t 56) (.d (.int .i64 255)), none, [5]⟩,
     ⟨(some 58), .bin .rem (.t 57) (.d (.int .i64 4)), none, [6]⟩,
     ⟨(some 59), .bin .add (.d (.int .i64 1)) (.t 58), none, [7]⟩,
     ⟨(some 60), .fa 1 (.t 2), none, [0, 1, 2, 3, 4, 5]⟩,
     ⟨none, .store 1 (.t 60) (.t 54), none, [9, 3, 0, 1, 2, 3, 4, 5]⟩,
     ⟨(some 61), .fa 2 (.t 2), none, [0, 1, 2, 3, 4, 5, 6, 7, 8, 9, 10]⟩,
     ⟨none, .store 1 (.t 61) (.t 59), none, [11, 8, 10, 0, 1, 2, 3, 4, 5, 6, 7, 8, 9, 10]⟩])
   (.reg false [⟨(some 15), .fa 1 (.t 2), none, []⟩,
     ⟨(some 16), .load false 1 (.t 15), none, [0]⟩,
     ⟨(some 17), .bin .and (.t 16) (.d (.int .i64 7)), none, [1]⟩,
     ⟨(some 18), .bin .add (.d (.int .i64 1)) (.t 17), none, [2]⟩,
     ⟨(some 19), .fa 2 (.t 2), none, []⟩,
     ⟨(some 20), .load false 1 (.t 19), none, [4]⟩,
     ⟨(some 21), .bin .and (.t 20) (.d (.int .i64 3)), none, [5]⟩,
     ⟨(some 22), .fa 1 (.t 2), none, [0, 1, 2, 3, 4, 5]⟩,
     ⟨none, .store 1 (.t 22) (.t 18), none, [7, 3, 0, 1, 2, 3, 4, 5]⟩,
     ⟨(some 23), .fa 2 (.t 2), none, [0, 1, 2, 3, 4, 5, 6, 7, 8]⟩,
     ⟨none, .store 1 (.t 23) (.t 21), none, [9, 6, 8, 0, 1, 2, 3, 4, 5, 6, 7, 8]⟩])))))))))
(.seq (.reg true [⟨(some 62), .load true 3 (.t 2), none, []⟩,
  ⟨(some 63), .load true 3 (.t 2), none, []⟩,
  ⟨(some 64), .load true 3 (.t 3), none, []⟩,
  ⟨(some 65), .call 42 [(.t 63), (.t 64)], none, [1, 2]⟩,
  ⟨none, .store 3 (.t 4) (.t 62), none, [0, 3, 0]⟩,
  ⟨none, .store 3 (.t 5) (.t 65), none, [3, 4, 0, 1, 2, 3, 4]⟩])
.ret))))
theorem r_Tlaw17_Small : fnOf Tryz.prog n_Tlaw17_Small = some (c_Tlaw17_Small, [.cell 4 true 3, .cell 5 true 3], 66, false) := by kernel_rfl

/-- tallymark/tallymarklaw17.Own -/
abbrev n_Tlaw17_Own : FuncId := 10
def c_Tlaw17_Own : C := (.seq (.reg false [⟨(some 1), .box 23 (.t 0), none, []⟩,
  ⟨(some 2), .new 30 [(.int .i64 0), (.int .i64 0), (.int .i64 0)], none, []⟩])
(.seq (.reg false [⟨(some 3), .fa 0 (.t 1), none, []⟩,
  ⟨(some 4), .load false 1 (.t 3), none, [0]⟩,
  ⟨(some 5), .fa 1 (.t 1), none, []⟩,
  ⟨(some 6), .load false 1 (.t 5), none, [2]⟩,
  ⟨(some 7), .fa 2 (.t 1), none, []⟩,
  ⟨(some 8), .load false 1 (.t 7), none, [4]⟩,
  ⟨(some 9), .build [(.int .i64 0), (.int .i64 0), (.int .i64 0)] [(0, 1, (.t 4)), (1, 1, (.t 6)), (2, 1, (.t 8))], none, [1, 3, 5]⟩,
  ⟨none, .store 3 (.t 2) (.t 9), none, [6, 0, 1, 2, 3, 4, 5, 6]⟩])
.ret))
theorem r_Tlaw17_Own : fnOf Tryz.prog n_Tlaw17_Own = some (c_Tlaw17_Own, [.cell 2 true 3], 10, false) := by kernel_rfl

/-- tallymark/carray.New -/
abbrev n_carray_New : FuncId := 11
def c_carray_New : C := (.seq (.reg false [⟨(some 2), .box 30 (.t 0), none, []⟩,
  ⟨(some 4), .mv (.d .nilp), none, []⟩,
  ⟨(some 5), .mv (.d (.int .i64 0)), none, [1]⟩])
(.seq (.seq (.reg false [⟨(some 8), .load true 3 (.t 2), none, []⟩,
  ⟨(some 9), .call 43 [(.t 8)], none, [0]⟩,
  ⟨(some 10), .bin .neq (.t 9) (.d (.int .i64 0)), none, [1]⟩,
  ⟨(some 11), .mv (.t 10), none, [2, 1]⟩,
  ⟨(some 12), .mv (.t 1), some (11, false), [3]⟩,
  ⟨(some 13), .bin .lss (.t 12) (.d (.int .i64 1)), some (11, false), [4, 3]⟩,
  ⟨(some 14), .pick (.t 11) (.d (.bool true)) (.t 13), none, [3, 5]⟩,
  ⟨(some 15), .mv (.t 14), none, [6, 3]⟩,
  ⟨(some 16), .mv (.t 1), some (15, false), [7]⟩,
  ⟨(some 17), .bin .gtr (.t 16) (.d (.int .i64 256)), some (15, false), [8, 7]⟩,
  ⟨(some 18), .pick (.t 15) (.d (.bool true)) (.t 17), none, [7, 9]⟩])
(.cond (.t 18)
 (.seq (.reg false [⟨(some 4), .mv (.d .nilp), none, []⟩,
   ⟨(some 5), .mv (.d (.int .i64 10)), none, [0, 0]⟩])
 .ret)
 .skip))
(.seq (.reg false [⟨(some 20), .mv (.t 1), none, []⟩,
  ⟨(some 21), .load true 3 (.t 2), none, []⟩,
  ⟨(some 22), .call 45 [(.t 21)], none, [1]⟩,
  ⟨(some 23), .call 44 [(.t 20), (.t 22)], none, [0, 2, 2]⟩,
  ⟨(some 19), .mv (.t 23), none, [3]⟩,
  ⟨(some 24), .ext (.t 19) 0, none, [4]⟩,
  ⟨(some 25), .ext (.t 19) 1, none, [4]⟩,
  ⟨(some 6), .mv (.t 24), none, [5, 3, 0, 1, 2, 3, 4, 5]⟩,
  ⟨(some 7), .mv (.t 25), none, [6, 7, 0, 1, 2, 3, 4, 5, 6, 7]⟩])
(.seq (.seq (.reg false [⟨(some 26), .mv (.t 7), none, []⟩,
  ⟨(some 27), .bin .neq (.t 26) (.d (.int .i64 0)), none, [0]⟩])
(.cond (.t 27)
 (.seq (.reg false [⟨(some 28), .mv (.t 7), none, []⟩,
   ⟨(some 4), .mv (.d .nilp), none, []⟩,
   ⟨(some 5), .mv (.t 28), none, [0, 1, 0, 1]⟩])
 .ret)
 .skip))
(.seq (.reg false [⟨(some 29), .mv (.t 6), none, []⟩,
  ⟨(some 30), .load true 3 (.t 2), none, []⟩,
  ⟨(some 31), .build [.nilp, (.int .i64 0), (.int .i64 0), (.int .i64 0)] [(0, 1, (.t 29)), (1, 3, (.t 30))], none, [0, 1]⟩,
  ⟨(some 32), .box 109 (.t 31), none, [2]⟩,
  ⟨(some 4), .mv (.t 32), none, [3, 0, 1, 2, 3]⟩,
  ⟨(some 5), .mv (.d (.int .i64 0)), none, [4, 0, 1, 2, 3, 4]⟩])
.ret)))))
theorem r_carray_New : fnOf Tryz.prog n_carray_New = some (c_carray_New, [.t 4, .t 5], 33, false) := by kernel_rfl

/-- tallymark/tape.New -/
abbrev n_tape_New : FuncId := 12
def c_tape_New : C := (.seq (.reg false [⟨(some 2), .mv (.d .nilp), none, []⟩])
(.seq (.reg false [⟨(some 3), .mv (.t 0), none, []⟩,
  ⟨(some 4), .mv (.t 0), none, []⟩,
  ⟨(some 5), .len (.t 4), none, [1]⟩,
  ⟨(some 6), .mm false [(.t 5), (.d (.int .i64 1048576))], none, [2]⟩,
  ⟨(some 7), .slice 1 (.t 3) none (some (.t 6)) none, none, [0, 3]⟩,
  ⟨(some 8), .call 46 [(.t 7)], none, [4]⟩,
  ⟨(some 9), .build [(.int .i64 0), (.bool false), .nilsl] [(2, 1, (.t 8))], none, [5]⟩,
  ⟨(some 10), .box 114 (.t 9), none, [6]⟩,
  ⟨(some 2), .mv (.t 10), none, [7, 5, 0, 1, 2, 3, 4, 5, 6, 7]⟩])
.ret))
theorem r_tape_New : fnOf Tryz.prog n_tape_New = some (c_tape_New, [.t 2], 11, false) := by kernel_rfl

/-- (*tallymark/carray.Array).Add -/
abbrev n_carray_Array_Add : FuncId := 13
def c_carray_Array_Add : C := (.seq (.reg false [⟨(some 8), .mv (.d (.int .i64 0)), none, []⟩])
(.seq (.reg false [⟨(some 12), .mv (.t 0), none, []⟩,
  ⟨(some 13), .mv (.t 2), none, []⟩,
  ⟨(some 14), .call 17 [(.t 12), (.t 13)], none, [0, 1]⟩,
  ⟨(some 11), .mv (.t 14), none, [2]⟩,
  ⟨(some 15), .ext (.t 11) 0, none, [3]⟩,
  ⟨(some 16), .ext (.t 11) 1, none, [3]⟩,
  ⟨(some 9), .new 36 [(.int .i64 0), (.int .i64 0), (.bool false)], none, []⟩,
  ⟨none, .store 3 (.t 9) (.t 15), none, [6, 4, 2, 0, 1, 2, 3, 4, 6]⟩,
  ⟨(some 10), .mv (.t 16), none, [5, 7, 0, 1, 2, 3, 4, 5, 6, 7]⟩])
(.seq (.seq (.reg false [⟨(some 17), .mv (.t 10), none, []⟩,
  ⟨(some 18), .bin .neq (.t 17) (.d (.int .i64 0)), none, [0]⟩])
(.cond (.t 18)
 (.seq (.reg false [⟨(some 19), .mv (.t 10), none, []⟩,
   ⟨(some 8), .mv (.t 19), none, [0, 0]⟩])
 .ret)
 .skip))
(.seq (.seq (.reg true [⟨(some 21), .mv (.t 0), none, []⟩,
  ⟨(some 22), .chk (.t 21), none, [0]⟩,
  ⟨(some 23), .fa 1 (.t 22), none, [1]⟩,
  ⟨(some 24), .load true 3 (.t 23), none, [2]⟩,
  ⟨(some 25), .mv (.t 1), none, []⟩,
  ⟨(some 26), .load true 3 (.t 9), none, []⟩,
  ⟨(some 27), .mv (.t 3), none, []⟩,
  ⟨(some 28), .call 14 [(.t 24), (.t 25), (.t 26), (.t 27)], none, [3, 4, 5, 6]⟩,
  ⟨(some 20), .mv (.t 28), none, [7]⟩,
  ⟨(some 29), .ext (.t 20) 0, none, [8]⟩,
  ⟨(some 30), .ext (.t 20) 1, none, [8]⟩,
  ⟨none, .store 3 (.t 9) (.t 29), none, [9, 7, 0, 1, 2, 3, 4, 5, 6, 7, 8, 9]⟩,
  ⟨(some 10), .mv (.t 30), none, [10, 11, 0, 1, 2, 3, 4, 5, 6, 7, 8, 9, 10, 11]⟩])
(.seq (.reg false [⟨(some 31), .mv (.t 10), none, []⟩,
  ⟨(some 32), .bin .neq (.t 31) (.d (.int .i64 0)), none, [0]⟩])
(.cond (.t 32)
 (.seq (.reg false [⟨(some 33), .mv (.t 10), none, []⟩,
   ⟨(some 8), .mv (.t 33), none, [0, 0]⟩])
 .ret)
 .skip)))
(.seq (.reg false [⟨(some 34), .mv (.t 0), none, []⟩,
  ⟨(some 35), .mv (.t 2), none, []⟩,
  ⟨(some 36), .load true 3 (.t 9), none, []⟩,
  ⟨(some 37), .call 27 [(.t 34), (.t 35), (.t 36)], none, [0, 1, 2]⟩,
  ⟨(some 8), .mv (.t 37), none, [3, 3, 0, 1, 2, 3]⟩])
.ret)))))
theorem r_carray_Array_Add : fnOf Tryz.prog n_carray_Array_Add = some (c_carray_Array_Add, [.t 8], 38, false) := by kernel_rfl

/-- (tallymark/reg.Param).Add -/
abbrev n_reg_Param_Add : FuncId := 14
def c_reg_Param_Add : C := (.seq (.reg false [⟨(some 4), .box 30 (.t 0), none, []⟩,
  ⟨(some 6), .box 36 (.t 2), none, []⟩,
  ⟨(some 8), .new 36 [(.int .i64 0), (.int .i64 0), (.bool false)], none, []⟩,
  ⟨(some 9), .mv (.d (.int .i64 0)), none, []⟩])
(.seq (.seq (.reg false [⟨(some 15), .load true 3 (.t 4), none, []⟩,
  ⟨(some 16), .load true 3 (.t 6), none, []⟩,
  ⟨(some 17), .bsl 36 3 1 [(.int .i64 0), (.int .i64 0), (.bool false)] [(0, 3, (.t 16))], none, [1]⟩,
  ⟨(some 18), .call 47 [(.t 15), (.t 17)], none, [0, 2]⟩,
  ⟨(some 10), .mv (.t 18), none, [3, 3, 0, 1, 2, 3]⟩])
(.seq (.reg false [⟨(some 19), .mv (.t 10), none, []⟩,
  ⟨(some 20), .bin .neq (.t 19) (.d (.int .i64 0)), none, [0]⟩])
(.cond (.t 20)
 (.seq (.reg false [⟨(some 21), .load true 3 (.t 6), none, []⟩,
   ⟨(some 22), .mv (.t 10), none, []⟩,
   ⟨none, .store 3 (.t 8) (.t 21), none, [0, 0]⟩,
   ⟨(some 9), .mv (.t 22), none, [1, 2, 0, 1, 2]⟩])
 .ret)
 .skip)))
(.seq (.seq (.reg false [⟨(some 23), .fa 0 (.t 4), none, []⟩,
  ⟨(some 24), .load false 1 (.t 23), none, [0]⟩,
  ⟨(some 25), .bin .eql (.t 24) (.d (.int .i64 4)), none, [1]⟩])
(.cond (.t 25)
 (.seq (.reg true [⟨(some 27), .load true 3 (.t 4), none, []⟩,
   ⟨(some 28), .call 48 [(.t 27)], none, [0]⟩,
   ⟨(some 29), .mv (.t 1), none, []⟩,
   ⟨(some 30), .load true 3 (.t 6), none, []⟩,
   ⟨(some 31), .call 50 [(.t 30)], none, [3, 1]⟩,
   ⟨(some 32), .mv (.t 3), none, []⟩,
   ⟨(some 33), .call 49 [(.t 28), (.t 29), (.t 31), (.t 32)], none, [1, 2, 4, 5, 4]⟩,
   ⟨(some 26), .mv (.t 33), none, [6]⟩,
   ⟨(some 34), .ext (.t 26) 0, none, [7]⟩,
   ⟨(some 35), .ext (.t 26) 1, none, [7]⟩,
   ⟨(some 11), .new 117 [(.int .i64 0), (.int .i64 0), (.bool false)], none, []⟩,
   ⟨none, .store 3 (.t 11) (.t 34), none, [10, 8, 6, 0, 1, 2, 3, 4, 5, 6, 7, 8, 10]⟩,
   ⟨(some 12), .mv (.t 35), none, [9, 11, 0, 1, 2, 3, 4, 5, 6, 7, 8, 9, 10, 11]⟩])
 (.seq (.reg false [⟨(some 36), .load true 3 (.t 11), none, []⟩,
   ⟨(some 37), .call 51 [(.t 36)], none, [0]⟩,
   ⟨(some 38), .mv (.t 12), none, []⟩,
   ⟨none, .store 3 (.t 8) (.t 37), none, [1, 1, 0, 1]⟩,
   ⟨(some 9), .mv (.t 38), none, [2, 3, 0, 1, 2, 3]⟩])
 .ret))
 .skip))
(.seq (.reg true [⟨(some 40), .load true 3 (.t 4), none, []⟩,
  ⟨(some 41), .call 52 [(.t 40)], none, [0]⟩,
  ⟨(some 42), .mv (.t 1), none, []⟩,
  ⟨(some 43), .load true 3 (.t 6), none, []⟩,
  ⟨(some 44), .call 54 [(.t 43)], none, [3, 1]⟩,
  ⟨(some 45), .mv (.t 3), none, []⟩,
  ⟨(some 46), .call 53 [(.t 41), (.t 42), (.t 44), (.t 45)], none, [1, 2, 4, 5, 4]⟩,
  ⟨(some 39), .mv (.t 46), none, [6]⟩,
  ⟨(some 47), .ext (.t 39) 0, none, [7]⟩,
  ⟨(some 48), .ext (.t 39) 1, none, [7]⟩,
  ⟨(some 13), .new 126 [(.int .i64 0), (.bool false)], none, []⟩,
  ⟨none, .store 2 (.t 13) (.t 47), none, [10, 8, 6, 0, 1, 2, 3, 4, 5, 6, 7, 8, 10]⟩,
  ⟨(some 14), .mv (.t 48), none, [9, 11, 0, 1, 2, 3, 4, 5, 6, 7, 8, 9, 10, 11]⟩])
(.seq (.reg false [⟨(some 49), .load true 2 (.t 13), none, []⟩,
  ⟨(some 50), .call 55 [(.t 49)], none, [0]⟩,
  ⟨(some 51), .mv (.t 14), none, []⟩,
  ⟨none, .store 3 (.t 8) (.t 50), none, [1, 1, 0, 1]⟩,
  ⟨(some 9), .mv (.t 51), none, [2, 3, 0, 1, 2, 3]⟩])
.ret)))))
theorem r_reg_Param_Add : fnOf Tryz.prog n_reg_Param_Add = some (c_reg_Param_Add, [.cell 8 true 3, .t 9], 52, false) := by kernel_rfl

/-- (*tallymark/tape.Tape).Read -/
abbrev n_tape_Tape_Read : FuncId := 15
def c_tape_Tape_Read : C := (.seq (.reg false [⟨(some 2), .mv (.d (.int .i64 0)), none, []⟩])
(.seq (.reg false [⟨(some 3), .mv (.t 0), none, []⟩,
  ⟨(some 4), .chk (.t 3), none, [0]⟩,
  ⟨(some 5), .fa 0 (.t 4), none, [1]⟩,
  ⟨(some 6), .fa 0 (.t 5), none, [2]⟩,
  ⟨(some 7), .load false 1 (.t 6), none, [3]⟩,
  ⟨(some 2), .mv (.t 7), none, [4, 0, 1, 2, 3, 4]⟩])
.ret))
theorem r_tape_Tape_Read : fnOf Tryz.prog n_tape_Tape_Read = some (c_tape_Tape_Read, [.t 2], 8, false) := by kernel_rfl

/-- (*tallymark/carray.Array).Get -/
abbrev n_carray_Array_Get : FuncId := 17
def c_carray_Array_Get : C := (.seq (.reg false [⟨(some 4), .new 36 [(.int .i64 0), (.int .i64 0), (.bool false)], none, []⟩,
  ⟨(some 5), .mv (.d (.int .i64 0)), none, []⟩])
(.seq (.reg false [⟨(some 10), .mv (.t 0), none, []⟩,
  ⟨(some 11), .chk (.t 10), none, [0]⟩,
  ⟨(some 12), .fa 0 (.t 11), none, [1]⟩,
  ⟨(some 13), .load false 1 (.t 12), none, [2]⟩,
  ⟨(some 14), .mv (.t 1), none, []⟩,
  ⟨(some 15), .call 56 [(.t 13), (.t 14)], none, [3, 4]⟩,
  ⟨(some 9), .mv (.t 15), none, [5]⟩,
  ⟨(some 16), .ext (.t 9) 0, none, [6]⟩,
  ⟨(some 17), .ext (.t 9) 1, none, [6]⟩,
  ⟨(some 6), .mv (.t 16), none, [7, 5, 0, 1, 2, 3, 4, 5, 6, 7]⟩,
  ⟨(some 7), .mv (.t 17), none, [8, 9, 0, 1, 2, 3, 4, 5, 6, 7, 8, 9]⟩])
(.seq (.seq (.reg false [⟨(some 18), .mv (.t 7), none, []⟩,
  ⟨(some 19), .bin .neq (.t 18) (.d (.int .i64 0)), none, [0]⟩])
(.cond (.t 19)
 (.seq (.reg false [⟨(some 20), .build [(.int .i64 0), (.int .i64 0), (.bool false)] [], none, []⟩,
   ⟨(some 21), .mv (.t 7), none, []⟩,
   ⟨none, .store 3 (.t 4) (.t 20), none, [0, 0]⟩,
   ⟨(some 5), .mv (.t 21), none, [1, 2, 0, 1, 2]⟩])
 .ret)
 .skip))
(.seq (.reg false [⟨(some 8), .new 138 [.nilsl, (.int .i64 0)], none, []⟩])
(.seq (.reg false [⟨(some 22), .mv (.t 6), none, []⟩,
  ⟨(some 23), .mv (.t 0), none, []⟩,
  ⟨(some 24), .chk (.t 23), none, [1]⟩,
  ⟨(some 25), .fa 0 (.t 24), none, [2]⟩,
  ⟨(some 26), .load false 1 (.t 25), none, [3]⟩,
  ⟨(some 27), .call 58 [(.t 26)], none, [4]⟩,
  ⟨(some 28), .call 57 [(.t 8), (.t 22), (.t 27)], none, [0, 5, 5]⟩])
(.seq (.reg true [⟨(some 29), .mv (.t 0), none, []⟩,
  ⟨(some 30), .chk (.t 29), none, [0]⟩,
  ⟨(some 31), .fa 1 (.t 30), none, [1]⟩,
  ⟨(some 32), .load true 3 (.t 31), none, [2]⟩,
  ⟨(some 33), .call 61 [(.t 8)], none, []⟩,
  ⟨(some 34), .call 60 [(.t 33)], none, [4, 4]⟩,
  ⟨(some 35), .call 59 [(.t 32), (.t 34)], none, [3, 5, 5]⟩,
  ⟨(some 36), .ext (.t 35) 0, none, [6]⟩,
  ⟨(some 37), .ext (.t 35) 1, none, [6]⟩,
  ⟨none, .store 3 (.t 4) (.t 36), none, [7, 6, 0, 1, 2, 3, 4, 5, 6, 7, 8]⟩,
  ⟨(some 5), .mv (.t 37), none, [8, 9, 0, 1, 2, 3, 4, 5, 6, 7, 8, 9]⟩])
.ret))))))
theorem r_carray_Array_Get : fnOf Tryz.prog n_carray_Array_Get = some (c_carray_Array_Get, [.cell 4 true 3, .t 5], 38, false) := by kernel_rfl

/-- (tallymark/reg.Param).Well -/
abbrev n_reg_Param_Well : FuncId := 19
def c_reg_Param_Well : C := (.seq (.reg false [⟨(some 2), .box 30 (.t 0), none, []⟩,
  ⟨(some 3), .box 36 (.t 1), none, []⟩,
  ⟨(some 4), .mv (.d (.bool false)), none, []⟩])
(.seq (.seq (.reg false [⟨(some 6), .load true 3 (.t 2), none, []⟩,
  ⟨(some 7), .call 43 [(.t 6)], none, [0]⟩,
  ⟨(some 8), .bin .neq (.t 7) (.d (.int .i64 0)), none, [1]⟩])
(.cond (.t 8)
 (.seq (.reg false [⟨(some 4), .mv (.d (.bool false)), none, []⟩])
 .ret)
 .skip))
(.seq (.seq (.reg false [⟨(some 9), .fa 0 (.t 2), none, []⟩,
  ⟨(some 10), .load false 1 (.t 9), none, [0]⟩,
  ⟨(some 11), .bin .eql (.t 10) (.d (.int .i64 4)), none, [1]⟩])
(.cond (.t 11)
 (.seq (.reg true [⟨(some 12), .load true 3 (.t 2), none, []⟩,
   ⟨(some 13), .call 48 [(.t 12)], none, [0]⟩,
   ⟨(some 14), .load true 3 (.t 3), none, []⟩,
   ⟨(some 15), .call 50 [(.t 14)], none, [2, 1]⟩,
   ⟨(some 16), .call 64 [(.t 13), (.t 15)], none, [1, 3, 3]⟩,
   ⟨(some 4), .mv (.t 16), none, [4, 4, 0, 1, 2, 3, 4]⟩])
 .ret)
 .skip))
(.seq (.reg false [⟨(some 17), .load true 3 (.t 2), none, []⟩,
  ⟨(some 18), .call 52 [(.t 17)], none, [0]⟩,
  ⟨(some 19), .call 65 [(.t 18)], none, [1, 1]⟩,
  ⟨(some 5), .mv (.t 19), none, [2, 2, 0, 1, 2]⟩])
(.seq (.reg false [⟨(some 20), .fa 1 (.t 3), none, []⟩,
  ⟨(some 21), .load false 1 (.t 20), none, [0]⟩,
  ⟨(some 22), .bin .eql (.t 21) (.d (.int .i64 0)), none, [1]⟩,
  ⟨(some 23), .mv (.t 22), none, [2]⟩,
  ⟨(some 24), .fa 0 (.t 3), some (23, true), [3]⟩,
  ⟨(some 25), .load false 1 (.t 24), some (23, true), [4, 3]⟩,
  ⟨(some 26), .bin .geq (.t 25) (.d (.int .i64 0)), some (23, true), [5, 3]⟩,
  ⟨(some 27), .pick (.t 23) (.t 26) (.d (.bool false)), none, [3, 6]⟩,
  ⟨(some 28), .mv (.t 27), none, [7, 3]⟩,
  ⟨(some 29), .fa 0 (.t 3), some (28, true), [8]⟩,
  ⟨(some 30), .load false 1 (.t 29), some (28, true), [9, 8]⟩,
  ⟨(some 31), .mv (.t 5), some (28, true), [8]⟩,
  ⟨(some 32), .bin .leq (.t 30) (.t 31), some (28, true), [10, 11, 8]⟩,
  ⟨(some 33), .pick (.t 28) (.t 32) (.d (.bool false)), none, [8, 12]⟩,
  ⟨(some 34), .mv (.t 33), none, [13, 8]⟩,
  ⟨(some 35), .fa 2 (.t 3), some (34, true), [14]⟩,
  ⟨(some 36), .load false 1 (.t 35), some (34, true), [15, 14]⟩,
  ⟨(some 37), .un .not (.t 36), some (34, true), [16, 14]⟩,
  ⟨(some 38), .mv (.t 37), some (34, true), [17, 14, 14]⟩,
  ⟨(some 39), .fa 0 (.t 3), some (38, false), [18]⟩,
  ⟨(some 40), .load false 1 (.t 39), some (38, false), [19, 18]⟩,
  ⟨(some 41), .mv (.t 5), some (38, false), [18]⟩,
  ⟨(some 42), .bin .eql (.t 40) (.t 41), some (38, false), [20, 21, 18]⟩,
  ⟨(some 43), .pick (.t 38) (.d (.bool true)) (.t 42), some (34, true), [18, 22, 14]⟩,
  ⟨(some 44), .pick (.t 34) (.t 43) (.d (.bool false)), none, [14, 23]⟩,
  ⟨(some 4), .mv (.t 44), none, [24, 18, 0, 1, 2, 3, 4, 5, 6, 7, 8, 9, 10, 11, 12, 13, 14, 15, 16, 17, 18, 19, 20, 21, 22, 23, 24]⟩])
.ret)))))
theorem r_reg_Param_Well : fnOf Tryz.prog n_reg_Param_Well = some (c_reg_Param_Well, [.t 4], 45, false) := by kernel_rfl

/-- tallymark/tallymarklaw18.awake -/
abbrev n_Tlaw18_awake : FuncId := 20
def c_Tlaw18_awake : C := (.seq (.reg false [⟨(some 0), .mv (.d (.bool false)), none, []⟩])
(.seq (.reg false [⟨(some 7), .build [(.int .i64 0), (.int .i64 0), (.int .i64 0)] [(0, 1, (.d (.int .i64 2))), (1, 1, (.d (.int .i64 1))), (2, 1, (.d (.int .i64 3)))], none, []⟩,
  ⟨(some 8), .call 11 [(.t 7), (.d (.int .i64 2))], none, [0]⟩,
  ⟨(some 6), .mv (.t 8), none, [1]⟩,
  ⟨(some 9), .ext (.t 6) 0, none, [2]⟩,
  ⟨(some 10), .ext (.t 6) 1, none, [2]⟩,
  ⟨(some 1), .mv (.t 9), none, [3, 1, 0, 1, 2, 3]⟩,
  ⟨(some 2), .mv (.t 10), none, [4, 5, 0, 1, 2, 3, 4, 5]⟩])
(.seq (.seq (.reg false [⟨(some 11), .mv (.t 2), none, []⟩,
  ⟨(some 12), .bin .neq (.t 11) (.d (.int .i64 0)), none, [0]⟩,
  ⟨(some 13), .mv (.t 12), none, [1]⟩,
  ⟨(some 14), .mv (.t 1), some (13, false), [2]⟩,
  ⟨(some 15), .pnl false (.t 14), some (13, false), [3, 2]⟩,
  ⟨(some 16), .pick (.t 13) (.d (.bool true)) (.t 15), none, [2, 4]⟩,
  ⟨(some 17), .mv (.t 16), none, [5, 2]⟩,
  ⟨(some 18), .mv (.t 1), some (17, false), [6]⟩,
  ⟨(some 19), .build [(.int .i64 0), (.int .i64 0), (.bool false)] [(0, 1, (.d (.int .i64 5)))], some (17, false), [6]⟩,
  ⟨(some 20), .call 27 [(.t 18), (.d (.int .i64 0)), (.t 19)], some (17, false), [7, 8, 6, 6]⟩,
  ⟨(some 21), .bin .neq (.t 20) (.d (.int .i64 0)), some (17, false), [9, 6]⟩,
  ⟨(some 22), .pick (.t 17) (.d (.bool true)) (.t 21), none, [6, 10]⟩])
(.cond (.t 22)
 (.seq (.reg false [⟨(some 0), .mv (.d (.bool false)), none, []⟩])
 .ret)
 .skip))
(.seq (.reg false [⟨(some 24), .mv (.t 1), none, []⟩,
  ⟨(some 25), .call 17 [(.t 24), (.d (.int .i64 0))], none, [0]⟩,
  ⟨(some 23), .mv (.t 25), none, [1]⟩,
  ⟨(some 26), .ext (.t 23) 0, none, [2]⟩,
  ⟨(some 27), .ext (.t 23) 1, none, [2]⟩,
  ⟨(some 3), .new 36 [(.int .i64 0), (.int .i64 0), (.bool false)], none, []⟩,
  ⟨none, .store 3 (.t 3) (.t 26), none, [5, 3, 1, 0, 1, 2, 3, 5]⟩,
  ⟨(some 4), .mv (.t 27), none, [4, 6, 0, 1, 2, 3, 4, 5, 6]⟩])
(.seq (.reg false [⟨(some 5), .new 138 [.nilsl, (.int .i64 0)], none, []⟩])
(.seq (.reg false [⟨(some 28), .mv (.t 1), none, []⟩,
  ⟨(some 29), .chk (.t 28), none, [0]⟩,
  ⟨(some 30), .fa 0 (.t 29), none, [1]⟩,
  ⟨(some 31), .load false 1 (.t 30), none, [2]⟩,
  ⟨(some 32), .call 66 [(.t 31), (.t 5)], none, [3]⟩])
(.seq (.reg false [⟨(some 33), .mv (.t 4), none, []⟩,
  ⟨(some 34), .bin .eql (.t 33) (.d (.int .i64 0)), none, [0]⟩,
  ⟨(some 35), .mv (.t 34), none, [1]⟩,
  ⟨(some 36), .fa 0 (.t 3), some (35, true), [2]⟩,
  ⟨(some 37), .load false 1 (.t 36), some (35, true), [3, 2]⟩,
  ⟨(some 38), .bin .eql (.t 37) (.d (.int .i64 5)), some (35, true), [4, 2]⟩,
  ⟨(some 39), .pick (.t 35) (.t 38) (.d (.bool false)), none, [2, 5]⟩,
  ⟨(some 40), .mv (.t 39), none, [6, 2]⟩,
  ⟨(some 41), .mv (.t 1), some (40, true), [7]⟩,
  ⟨(some 42), .chk (.t 41), some (40, true), [8, 7]⟩,
  ⟨(some 43), .fa 0 (.t 42), some (40, true), [9, 7]⟩,
  ⟨(some 44), .load false 1 (.t 43), some (40, true), [10, 7]⟩,
  ⟨(some 45), .call 67 [(.t 44)], some (40, true), [11, 7, 7]⟩,
  ⟨(some 46), .bin .eql (.t 45) (.d (.int .i64 2)), some (40, true), [12, 7]⟩,
  ⟨(some 47), .pick (.t 40) (.t 46) (.d (.bool false)), none, [7, 13]⟩,
  ⟨(some 48), .mv (.t 47), none, [14, 12]⟩,
  ⟨(some 49), .call 68 [(.t 5)], some (48, true), [15, 15]⟩,
  ⟨(some 50), .bin .eql (.t 49) (.d (.int .i64 8)), some (48, true), [16, 15]⟩,
  ⟨(some 51), .pick (.t 48) (.t 50) (.d (.bool false)), none, [15, 17]⟩,
  ⟨(some 0), .mv (.t 51), none, [18, 16, 0, 1, 2, 3, 4, 5, 6, 7, 8, 9, 10, 11, 12, 13, 14, 15, 16, 17, 18]⟩])
.ret)))))))
theorem r_Tlaw18_awake : fnOf Tryz.prog n_Tlaw18_awake = some (c_Tlaw18_awake, [.t 0], 52, false) := by kernel_rfl

/-- tallymark/tallymarklaw09.Few -/
abbrev n_Tlaw09_Few : FuncId := 21
def c_Tlaw09_Few : C := (.seq (.reg false [⟨(some 4), .mv (.d .nilsl), none, []⟩])
(.seq (.seq (.reg false [⟨(some 5), .mv (.t 0), none, []⟩,
  ⟨(some 6), .len (.t 5), none, [0]⟩,
  ⟨(some 7), .mv (.t 1), none, []⟩,
  ⟨(some 8), .bin .gtr (.t 6) (.t 7), none, [1, 2]⟩])
(.cond (.t 8)
 (.seq (.reg false [⟨(some 9), .mv (.t 0), none, []⟩,
   ⟨(some 10), .mv (.t 1), none, []⟩,
   ⟨(some 11), .slice 1 (.t 9) none (some (.t 10)) none, none, [0, 1]⟩,
   ⟨(some 4), .mv (.t 11), none, [2, 0, 1, 2]⟩])
 .ret)
 .skip))
(.seq (.reg false [⟨(some 12), .mv (.t 0), none, []⟩,
  ⟨(some 4), .mv (.t 12), none, [0, 0]⟩])
.ret)))
theorem r_Tlaw09_Few : fnOf Tryz.prog n_Tlaw09_Few = some (c_Tlaw09_Few, [.t 4], 13, false) := by kernel_rfl

/-- tallymark/tallymarklaw18.is -/
abbrev n_Tlaw18_is : FuncId := 24
def c_Tlaw18_is : C := (.seq (.reg false [⟨(some 4), .mv (.d (.bool false)), none, []⟩])
(.seq (.seq (.reg false [⟨(some 13), .mv (.t 1), none, []⟩,
  ⟨(some 14), .len (.t 13), none, [0]⟩,
  ⟨(some 15), .mv (.d (.int .i64 0)), none, []⟩])
(.block 0 (.loop (.seq (.reg false [⟨(some 16), .bin .lss (.t 15) (.t 14), none, []⟩])
(.seq (.cond (.t 16)
 .skip
 (.exit 0))
(.seq (.block 1 (.seq (.reg false [⟨(some 17), .mv (.t 15), none, []⟩,
  ⟨(some 18), .ix 3 (.t 13) (.t 15), none, []⟩,
  ⟨(some 19), .load true 3 (.t 18), none, [1]⟩,
  ⟨(some 6), .new 36 [(.int .i64 0), (.int .i64 0), (.bool false)], none, []⟩,
  ⟨(some 5), .mv (.t 17), none, [0, 0, 1, 2, 3]⟩,
  ⟨none, .store 3 (.t 6) (.t 19), none, [3, 2, 4, 0, 1, 2, 3, 4]⟩])
(.seq (.reg false [⟨(some 21), .mv (.t 0), none, []⟩,
  ⟨(some 22), .mv (.t 5), none, []⟩,
  ⟨(some 23), .call 17 [(.t 21), (.t 22)], none, [0, 1]⟩,
  ⟨(some 20), .mv (.t 23), none, [2]⟩,
  ⟨(some 24), .ext (.t 20) 0, none, [3]⟩,
  ⟨(some 25), .ext (.t 20) 1, none, [3]⟩,
  ⟨(some 7), .new 36 [(.int .i64 0), (.int .i64 0), (.bool false)], none, []⟩,
  ⟨none, .store 3 (.t 7) (.t 24), none, [6, 4, 2, 0, 1, 2, 3, 4, 6]⟩,
  ⟨(some 8), .mv (.t 25), none, [5, 7, 0, 1, 2, 3, 4, 5, 6, 7]⟩])
(.seq (.reg false [⟨(some 26), .load true 3 (.t 7), none, []⟩,
  ⟨(some 27), .load true 3 (.t 6), none, []⟩,
  ⟨(some 28), .aeq true [0, 0, 1] (.t 26) (.t 27), none, [0, 1]⟩,
  ⟨(some 29), .mv (.t 28), none, [2]⟩,
  ⟨(some 30), .mv (.t 8), some (29, false), [3]⟩,
  ⟨(some 31), .bin .neq (.t 30) (.d (.int .i64 0)), some (29, false), [4, 3]⟩,
  ⟨(some 32), .pick (.t 29) (.d (.bool true)) (.t 31), none, [3, 5]⟩])
(.cond (.t 32)
 (.seq (.reg false [⟨(some 4), .mv (.d (.bool false)), none, []⟩])
 .ret)
 .skip)))))
(.reg false [⟨(some 33), .bin .add (.t 15) (.d (.int .i64 1)), none, []⟩,
  ⟨(some 15), .mv (.t 33), none, [0]⟩])))))))
(.seq (.reg false [⟨(some 35), .mv (.t 0), none, []⟩,
  ⟨(some 36), .call 17 [(.t 35), (.d (.int .i64 (-1)))], none, [0]⟩,
  ⟨(some 34), .mv (.t 36), none, [1]⟩,
  ⟨(some 37), .ext (.t 34) 0, none, [2]⟩,
  ⟨(some 38), .ext (.t 34) 1, none, [2]⟩,
  ⟨(some 9), .new 36 [(.int .i64 0), (.int .i64 0), (.bool false)], none, []⟩,
  ⟨none, .store 3 (.t 9) (.t 37), none, [5, 3, 1, 0, 1, 2, 3, 5]⟩,
  ⟨(some 10), .mv (.t 38), none, [4, 6, 0, 1, 2, 3, 4, 5, 6]⟩])
(.seq (.reg false [⟨(some 40), .mv (.t 0), none, []⟩,
  ⟨(some 41), .mv (.t 1), none, []⟩,
  ⟨(some 42), .len (.t 41), none, [1]⟩,
  ⟨(some 43), .call 17 [(.t 40), (.t 42)], none, [0, 2]⟩,
  ⟨(some 39), .mv (.t 43), none, [3]⟩,
  ⟨(some 44), .ext (.t 39) 0, none, [4]⟩,
  ⟨(some 45), .ext (.t 39) 1, none, [4]⟩,
  ⟨(some 11), .new 36 [(.int .i64 0), (.int .i64 0), (.bool false)], none, []⟩,
  ⟨none, .store 3 (.t 11) (.t 44), none, [7, 5, 3, 0, 1, 2, 3, 4, 5, 7]⟩,
  ⟨(some 12), .mv (.t 45), none, [6, 8, 0, 1, 2, 3, 4, 5, 6, 7, 8]⟩])
(.seq (.reg false [⟨(some 46), .mv (.t 0), none, []⟩,
  ⟨(some 47), .chk (.t 46), none, [0]⟩,
  ⟨(some 48), .fa 0 (.t 47), none, [1]⟩,
  ⟨(some 49), .load false 1 (.t 48), none, [2]⟩,
  ⟨(some 50), .call 67 [(.t 49)], none, [3]⟩,
  ⟨(some 51), .mv (.t 1), none, []⟩,
  ⟨(some 52), .len (.t 51), none, [5]⟩,
  ⟨(some 53), .bin .eql (.t 50) (.t 52), none, [4, 6]⟩,
  ⟨(some 54), .mv (.t 53), none, [7, 4]⟩,
  ⟨(some 55), .mv (.t 10), some (54, true), [8]⟩,
  ⟨(some 56), .bin .eql (.t 55) (.d (.int .i64 1)), some (54, true), [9, 8]⟩,
  ⟨(some 57), .pick (.t 54) (.t 56) (.d (.bool false)), none, [8, 10]⟩,
  ⟨(some 58), .mv (.t 57), none, [11, 8]⟩,
  ⟨(some 59), .mv (.t 12), some (58, true), [12]⟩,
  ⟨(some 60), .bin .eql (.t 59) (.d (.int .i64 1)), some (58, true), [13, 12]⟩,
  ⟨(some 61), .pick (.t 58) (.t 60) (.d (.bool false)), none, [12, 14]⟩,
  ⟨(some 4), .mv (.t 61), none, [15, 12, 0, 1, 2, 3, 4, 5, 6, 7, 8, 9, 10, 11, 12, 13, 14, 15]⟩])
.ret)))))
theorem r_Tlaw18_is : fnOf Tryz.prog n_Tlaw18_is = some (c_Tlaw18_is, [.t 4], 62, false) := by kernel_rfl

/-- (*tallymark/carray.Array).Clone -/
abbrev n_carray_Array_Clone : FuncId := 25
def c_carray_Array_Clone : C := (.seq (.reg false [⟨(some 2), .mv (.d .nilp), none, []⟩])
(.seq (.reg true [⟨(some 3), .mv (.t 0), none, []⟩,
  ⟨(some 4), .chk (.t 3), none, [0]⟩,
  ⟨(some 5), .fa 0 (.t 4), none, [1]⟩,
  ⟨(some 6), .load false 1 (.t 5), none, [2]⟩,
  ⟨(some 7), .call 69 [(.t 6)], none, [3]⟩,
  ⟨(some 8), .mv (.t 0), none, []⟩,
  ⟨(some 9), .chk (.t 8), none, [5]⟩,
  ⟨(some 10), .fa 1 (.t 9), none, [6]⟩,
  ⟨(some 11), .load true 3 (.t 10), none, [7]⟩,
  ⟨(some 12), .build [.nilp, (.int .i64 0), (.int .i64 0), (.int .i64 0)] [(0, 1, (.t 7)), (1, 3, (.t 11))], none, [4, 8]⟩,
  ⟨(some 13), .box 109 (.t 12), none, [9]⟩,
  ⟨(some 2), .mv (.t 13), none, [10, 4, 0, 1, 2, 3, 4, 5, 6, 7, 8, 9, 10]⟩])
.ret))
theorem r_carray_Array_Clone : fnOf Tryz.prog n_carray_Array_Clone = some (c_carray_Array_Clone, [.t 2], 14, false) := by kernel_rfl

/-- (*tallymark/carray.Array).Same -/
abbrev n_carray_Array_Same : FuncId := 26
def c_carray_Array_Same : C := (.seq (.reg false [⟨(some 4), .mv (.d (.bool false)), none, []⟩])
(.seq (.reg true [⟨(some 5), .mv (.t 0), none, []⟩,
  ⟨(some 6), .chk (.t 5), none, [0]⟩,
  ⟨(some 7), .fa 1 (.t 6), none, [1]⟩,
  ⟨(some 8), .load true 3 (.t 7), none, [2]⟩,
  ⟨(some 9), .mv (.t 1), none, []⟩,
  ⟨(some 10), .chk (.t 9), none, [4]⟩,
  ⟨(some 11), .fa 1 (.t 10), none, [5]⟩,
  ⟨(some 12), .load true 3 (.t 11), none, [6]⟩,
  ⟨(some 13), .aeq false [0, 0, 0] (.t 8) (.t 12), none, [3, 7]⟩,
  ⟨(some 14), .mv (.t 13), none, [8]⟩,
  ⟨(some 15), .mv (.t 0), some (14, true), [9]⟩,
  ⟨(some 16), .chk (.t 15), some (14, true), [10, 9]⟩,
  ⟨(some 17), .fa 0 (.t 16), some (14, true), [11, 9]⟩,
  ⟨(some 18), .load false 1 (.t 17), some (14, true), [12, 9]⟩,
  ⟨(some 19), .mv (.t 1), some (14, true), [9]⟩,
  ⟨(some 20), .chk (.t 19), some (14, true), [14, 9]⟩,
  ⟨(some 21), .fa 0 (.t 20), some (14, true), [15, 9]⟩,
  ⟨(some 22), .load false 1 (.t 21), some (14, true), [16, 9]⟩,
  ⟨(some 23), .call 70 [(.t 18), (.t 22)], some (14, true), [13, 17, 9, 9]⟩,
  ⟨(some 24), .pick (.t 14) (.t 23) (.d (.bool false)), none, [9, 18]⟩,
  ⟨(some 4), .mv (.t 24), none, [19, 18, 0, 1, 2, 3, 4, 5, 6, 7, 8, 9, 10, 11, 12, 13, 14, 15, 16, 17, 18, 19]⟩])
.ret))
theorem r_carray_Array_Same : fnOf Tryz.prog n_carray_Array_Same = some (c_carray_Array_Same, [.t 4], 25, false) := by kernel_rfl

/-- (*tallymark/carray.Array).Set -/
abbrev n_carray_Array_Set : FuncId := 27
def c_carray_Array_Set : C := (.seq (.reg false [⟨(some 5), .box 36 (.t 2), none, []⟩,
  ⟨(some 6), .mv (.d (.int .i64 0)), none, []⟩])
(.seq (.seq (.reg false [⟨(some 14), .mv (.t 0), none, []⟩,
  ⟨(some 15), .chk (.t 14), none, [0]⟩,
  ⟨(some 16), .fa 0 (.t 15), none, [1]⟩,
  ⟨(some 17), .load false 1 (.t 16), none, [2]⟩,
  ⟨(some 18), .mv (.t 1), none, []⟩,
  ⟨(some 19), .call 56 [(.t 17), (.t 18)], none, [3, 4]⟩,
  ⟨(some 13), .mv (.t 19), none, [5]⟩,
  ⟨(some 20), .ext (.t 13) 0, none, [6]⟩,
  ⟨(some 21), .ext (.t 13) 1, none, [6]⟩,
  ⟨(some 7), .mv (.t 20), none, [7, 5, 0, 1, 2, 3, 4, 5, 6, 7]⟩,
  ⟨(some 8), .mv (.t 21), none, [8, 9, 0, 1, 2, 3, 4, 5, 6, 7, 8, 9]⟩])
(.seq (.reg false [⟨(some 22), .mv (.t 8), none, []⟩,
  ⟨(some 23), .bin .neq (.t 22) (.d (.int .i64 0)), none, [0]⟩])
(.cond (.t 23)
 (.seq (.reg false [⟨(some 24), .mv (.t 8), none, []⟩,
   ⟨(some 6), .mv (.t 24), none, [0, 0]⟩])
 .ret)
 .skip)))
(.seq (.reg false [⟨(some 9), .new 138 [.nilsl, (.int .i64 0)], none, []⟩])
(.seq (.seq (.reg true [⟨(some 25), .mv (.t 0), none, []⟩,
  ⟨(some 26), .chk (.t 25), none, [0]⟩,
  ⟨(some 27), .fa 1 (.t 26), none, [1]⟩,
  ⟨(some 28), .load true 3 (.t 27), none, [2]⟩,
  ⟨(some 29), .load true 3 (.t 5), none, []⟩,
  ⟨(some 30), .call 71 [(.t 28), (.t 9), (.t 29)], none, [3, 4]⟩,
  ⟨(some 10), .mv (.t 30), none, [5, 5, 0, 1, 2, 3, 4, 5]⟩])
(.seq (.reg false [⟨(some 31), .mv (.t 10), none, []⟩,
  ⟨(some 32), .bin .neq (.t 31) (.d (.int .i64 0)), none, [0]⟩])
(.cond (.t 32)
 (.seq (.reg false [⟨(some 33), .mv (.t 10), none, []⟩,
   ⟨(some 6), .mv (.t 33), none, [0, 0]⟩])
 .ret)
 .skip)))
(.seq (.reg true [⟨(some 35), .call 61 [(.t 9)], none, []⟩,
  ⟨(some 36), .call 60 [(.t 35)], none, [0, 0]⟩,
  ⟨(some 37), .mv (.t 0), none, []⟩,
  ⟨(some 38), .chk (.t 37), none, [2]⟩,
  ⟨(some 39), .fa 0 (.t 38), none, [3]⟩,
  ⟨(some 40), .load false 1 (.t 39), none, [4]⟩,
  ⟨(some 41), .call 58 [(.t 40)], none, [5, 1]⟩,
  ⟨(some 42), .call 72 [(.t 36), (.t 41)], none, [1, 6, 6]⟩,
  ⟨(some 34), .mv (.t 42), none, [7]⟩,
  ⟨(some 43), .ext (.t 34) 0, none, [8]⟩,
  ⟨(some 44), .ext (.t 34) 1, none, [8]⟩,
  ⟨(some 11), .mv (.t 43), none, [9, 7, 0, 1, 2, 3, 4, 5, 6, 7, 8, 9]⟩,
  ⟨(some 12), .mv (.t 44), none, [10, 11, 0, 1, 2, 3, 4, 5, 6, 7, 8, 9, 10, 11]⟩])
(.seq (.reg false [⟨(some 45), .mv (.t 0), none, []⟩,
  ⟨(some 46), .chk (.t 45), none, [0]⟩,
  ⟨(some 47), .fa 0 (.t 46), none, [1]⟩,
  ⟨(some 48), .load false 1 (.t 47), none, [2]⟩,
  ⟨(some 49), .mv (.t 1), none, []⟩,
  ⟨(some 50), .mv (.t 11), none, []⟩,
  ⟨(some 51), .call 73 [(.t 48), (.t 49), (.t 50)], none, [3, 4, 5]⟩,
  ⟨(some 6), .mv (.t 51), none, [6, 6, 0, 1, 2, 3, 4, 5, 6]⟩])
.ret))))))
theorem r_carray_Array_Set : fnOf Tryz.prog n_carray_Array_Set = some (c_carray_Array_Set, [.t 6], 52, false) := by kernel_rfl

/-- (*tallymark/carray.Array).Param -/
abbrev n_carray_Array_Param : FuncId := 28
def c_carray_Array_Param : C := (.seq (.reg false [⟨(some 2), .new 30 [(.int .i64 0), (.int .i64 0), (.int .i64 0)], none, []⟩])
(.seq (.reg false [⟨(some 3), .mv (.t 0), none, []⟩,
  ⟨(some 4), .chk (.t 3), none, [0]⟩,
  ⟨(some 5), .fa 1 (.t 4), none, [1]⟩,
  ⟨(some 6), .load true 3 (.t 5), none, [2]⟩,
  ⟨none, .store 3 (.t 2) (.t 6), none, [3, 0, 1, 2, 3]⟩])
.ret))
theorem r_carray_Array_Param : fnOf Tryz.prog n_carray_Array_Param = some (c_carray_Array_Param, [.cell 2 true 3], 7, false) := by kernel_rfl

/-- tallymark/tallymarklaw17.State -/
abbrev n_Tlaw17_State : FuncId := 29
def c_Tlaw17_State : C := (.seq (.reg false [⟨(some 1), .box 27 (.t 0), none, []⟩,
  ⟨(some 2), .new 36 [(.int .i64 0), (.int .i64 0), (.bool false)], none, []⟩])
(.seq (.reg false [⟨(some 3), .fa 0 (.t 1), none, []⟩,
  ⟨(some 4), .load false 1 (.t 3), none, [0]⟩,
  ⟨(some 5), .fa 1 (.t 1), none, []⟩,
  ⟨(some 6), .load false 1 (.t 5), none, [2]⟩,
  ⟨(some 7), .fa 2 (.t 1), none, []⟩,
  ⟨(some 8), .load false 1 (.t 7), none, [4]⟩,
  ⟨(some 9), .build [(.int .i64 0), (.int .i64 0), (.bool false)] [(0, 1, (.t 4)), (1, 1, (.t 6)), (2, 1, (.t 8))], none, [1, 3, 5]⟩,
  ⟨none, .store 3 (.t 2) (.t 9), none, [6, 0, 1, 2, 3, 4, 5, 6]⟩])
.ret))
theorem r_Tlaw17_State : fnOf Tryz.prog n_Tlaw17_State = some (c_Tlaw17_State, [.cell 2 true 3], 10, false) := by kernel_rfl

/-- tallymark/tallymarklaw18.same -/
abbrev n_Tlaw18_same : FuncId := 30
def c_Tlaw18_same : C := (.seq (.reg false [⟨(some 4), .mv (.d (.bool false)), none, []⟩])
(.seq (.seq (.reg false [⟨(some 6), .mv (.t 0), none, []⟩,
  ⟨(some 7), .len (.t 6), none, [0]⟩,
  ⟨(some 8), .mv (.d (.int .i64 0)), none, []⟩])
(.block 0 (.loop (.seq (.reg false [⟨(some 9), .bin .lss (.t 8) (.t 7), none, []⟩])
(.seq (.cond (.t 9)
 .skip
 (.exit 0))
(.seq (.block 1 (.seq (.reg false [⟨(some 10), .mv (.t 8), none, []⟩,
  ⟨(some 5), .mv (.t 10), none, [0, 0]⟩])
(.seq (.reg true [⟨(some 11), .mv (.t 0), none, []⟩,
  ⟨(some 12), .mv (.t 5), none, []⟩,
  ⟨(some 13), .ix 3 (.t 11) (.t 12), none, [0, 1]⟩,
  ⟨(some 14), .load true 3 (.t 13), none, [2]⟩,
  ⟨(some 15), .mv (.t 1), none, []⟩,
  ⟨(some 16), .mv (.t 5), none, []⟩,
  ⟨(some 17), .ix 3 (.t 15) (.t 16), none, [4, 5]⟩,
  ⟨(some 18), .load true 3 (.t 17), none, [6]⟩,
  ⟨(some 19), .aeq true [0, 0, 1] (.t 14) (.t 18), none, [3, 7]⟩])
(.cond (.t 19)
 (.seq (.reg false [⟨(some 4), .mv (.d (.bool false)), none, []⟩])
 .ret)
 .skip))))
(.reg false [⟨(some 20), .bin .add (.t 8) (.d (.int .i64 1)), none, []⟩,
  ⟨(some 8), .mv (.t 20), none, [0]⟩])))))))
(.seq (.reg false [⟨(some 21), .mv (.t 0), none, []⟩,
  ⟨(some 22), .len (.t 21), none, [0]⟩,
  ⟨(some 23), .mv (.t 1), none, []⟩,
  ⟨(some 24), .len (.t 23), none, [2]⟩,
  ⟨(some 25), .bin .eql (.t 22) (.t 24), none, [1, 3]⟩,
  ⟨(some 4), .mv (.t 25), none, [4, 0, 1, 2, 3, 4]⟩])
.ret)))
theorem r_Tlaw18_same : fnOf Tryz.prog n_Tlaw18_same = some (c_Tlaw18_same, [.t 4], 26, false) := by kernel_rfl

/-- tallymark/tallymarklaw17.Within -/
abbrev n_Tlaw17_Within : FuncId := 42
def c_Tlaw17_Within : C := (.seq (.reg false [⟨(some 2), .box 23 (.t 0), none, []⟩,
  ⟨(some 3), .box 27 (.t 1), none, []⟩,
  ⟨(some 4), .new 27 [(.int .i64 0), (.int .i64 0), (.bool false)], none, []⟩])
(.seq (.seq (.reg false [⟨(some 6), .fa 0 (.t 2), none, []⟩,
  ⟨(some 7), .load false 1 (.t 6), none, [0]⟩,
  ⟨(some 8), .bin .eql (.t 7) (.d (.int .i64 4)), none, [1]⟩])
(.cond (.t 8)
 (.seq (.reg true [⟨(some 9), .fa 0 (.t 3), none, []⟩,
   ⟨(some 10), .load false 1 (.t 9), none, [0]⟩,
   ⟨(some 11), .bin .and (.t 10) (.d (.int .i64 7)), none, [1]⟩,
   ⟨(some 12), .fa 1 (.t 2), none, []⟩,
   ⟨(some 13), .load false 1 (.t 12), none, [3]⟩,
   ⟨(some 14), .bin .add (.t 13) (.d (.int .i64 1)), none, [4]⟩,
   ⟨(some 15), .bin .rem (.t 11) (.t 14), none, [2, 5]⟩,
   ⟨(some 16), .fa 1 (.t 3), none, []⟩,
   ⟨(some 17), .load false 1 (.t 16), none, [7]⟩,
   ⟨(some 18), .bin .and (.t 17) (.d (.int .i64 3)), none, [8]⟩,
   ⟨(some 19), .fa 2 (.t 2), none, []⟩,
   ⟨(some 20), .load false 1 (.t 19), none, [10]⟩,
   ⟨(some 21), .bin .add (.t 20) (.d (.int .i64 1)), none, [11]⟩,
   ⟨(some 22), .bin .rem (.t 18) (.t 21), none, [9, 12]⟩,
   ⟨(some 23), .fa 0 (.t 3), none, [0, 1, 2, 3, 4, 5, 6, 7, 8]⟩,
   ⟨none, .store 1 (.t 23) (.t 15), none, [14, 6, 0, 1, 2, 3, 4, 5, 6, 7, 8]⟩,
   ⟨(some 24), .fa 1 (.t 3), none, [0, 1, 2, 3, 4, 5, 6, 7, 8, 9, 10, 11, 12, 13, 14, 15]⟩,
   ⟨none, .store 1 (.t 24) (.t 22), none, [16, 13, 15, 0, 1, 2, 3, 4, 5, 6, 7, 8, 9, 10, 11, 12, 13, 14, 15]⟩])
 (.seq (.reg false [⟨(some 25), .fa 2 (.t 3), none, []⟩,
   ⟨(some 26), .load false 1 (.t 25), none, [0]⟩,
   ⟨(some 27), .mv (.t 26), none, [1]⟩,
   ⟨(some 28), .fa 1 (.t 3), some (27, true), [2]⟩,
   ⟨(some 29), .load false 1 (.t 28), some (27, true), [3, 2]⟩,
   ⟨(some 30), .fa 2 (.t 2), some (27, true), [2]⟩,
   ⟨(some 31), .load false 1 (.t 30), some (27, true), [5, 2]⟩,
   ⟨(some 32), .bin .eql (.t 29) (.t 31), some (27, true), [4, 6, 2]⟩,
   ⟨(some 33), .pick (.t 27) (.t 32) (.d (.bool false)), none, [2, 7]⟩,
   ⟨(some 34), .fa 2 (.t 3), none, [0, 1, 2, 3, 4, 5, 6, 7, 8]⟩,
   ⟨none, .store 1 (.t 34) (.t 33), none, [9, 8, 2, 0, 1, 2, 3, 4, 5, 6, 7, 8]⟩])
 (.seq (.reg false [⟨(some 35), .load true 3 (.t 3), none, []⟩,
   ⟨none, .store 3 (.t 4) (.t 35), none, [0, 0]⟩])
 .ret)))
 .skip))
(.seq (.reg false [⟨(some 36), .fa 2 (.t 2), none, []⟩,
  ⟨(some 37), .load false 1 (.t 36), none, [0]⟩,
  ⟨(some 38), .bin .shl (.d (.int .i64 1)) (.t 37), none, [1]⟩,
  ⟨(some 39), .bin .sub (.t 38) (.d (.int .i64 1)), none, [2]⟩,
  ⟨(some 5), .mv (.t 39), none, [3, 0, 1, 2, 3]⟩])
(.seq (.reg false [⟨(some 40), .fa 0 (.t 3), none, []⟩,
  ⟨(some 41), .load false 1 (.t 40), none, [0]⟩,
  ⟨(some 42), .bin .and (.t 41) (.d (.int .i64 15)), none, [1]⟩,
  ⟨(some 43), .mv (.t 5), none, []⟩,
  ⟨(some 44), .bin .add (.t 43) (.d (.int .i64 1)), none, [3]⟩,
  ⟨(some 45), .bin .rem (.t 42) (.t 44), none, [2, 4]⟩,
  ⟨(some 46), .fa 0 (.t 3), none, [0, 1, 2, 3, 4, 5]⟩,
  ⟨none, .store 1 (.t 46) (.t 45), none, [6, 5, 0, 1, 2, 3, 4, 5]⟩,
  ⟨(some 47), .fa 1 (.t 3), none, [0, 1, 2, 3, 4, 5, 6, 7]⟩,
  ⟨none, .store 1 (.t 47) (.d (.int .i64 0)), none, [8, 7, 0, 1, 2, 3, 4, 5, 6, 7]⟩])
(.seq (.reg false [⟨(some 48), .fa 2 (.t 3), none, []⟩,
  ⟨(some 49), .load false 1 (.t 48), none, [0]⟩,
  ⟨(some 50), .mv (.t 49), none, [1]⟩,
  ⟨(some 51), .fa 0 (.t 3), some (50, true), [2]⟩,
  ⟨(some 52), .load false 1 (.t 51), some (50, true), [3, 2]⟩,
  ⟨(some 53), .mv (.t 5), some (50, true), [2]⟩,
  ⟨(some 54), .bin .eql (.t 52) (.t 53), some (50, true), [4, 5, 2]⟩,
  ⟨(some 55), .pick (.t 50) (.t 54) (.d (.bool false)), none, [2, 6]⟩,
  ⟨(some 56), .fa 2 (.t 3), none, [0, 1, 2, 3, 4, 5, 6, 7]⟩,
  ⟨none, .store 1 (.t 56) (.t 55), none, [8, 7, 2, 0, 1, 2, 3, 4, 5, 6, 7]⟩])
(.seq (.reg false [⟨(some 57), .load true 3 (.t 3), none, []⟩,
  ⟨none, .store 3 (.t 4) (.t 57), none, [0, 0]⟩])
.ret))))))
theorem r_Tlaw17_Within : fnOf Tryz.prog n_Tlaw17_Within = some (c_Tlaw17_Within, [.cell 4 true 3], 58, false) := by kernel_rfl

/-- (tallymark/reg.Param).Check -/
abbrev n_reg_Param_Check : FuncId := 43
def c_reg_Param_Check : C := (.seq (.reg false [⟨(some 1), .box 30 (.t 0), none, []⟩,
  ⟨(some 2), .mv (.d (.int .i64 0)), none, []⟩])
(.seq (.seq (.reg false [⟨(some 3), .fa 0 (.t 1), none, []⟩,
  ⟨(some 4), .load false 1 (.t 3), none, [0]⟩,
  ⟨(some 5), .bin .eql (.t 4) (.d (.int .i64 4)), none, [1]⟩])
(.cond (.t 5)
 (.seq (.reg false [⟨(some 6), .load true 3 (.t 1), none, []⟩,
   ⟨(some 7), .call 48 [(.t 6)], none, [0]⟩,
   ⟨(some 8), .call 85 [(.t 7)], none, [1, 1]⟩,
   ⟨(some 2), .mv (.t 8), none, [2, 2, 0, 1, 2]⟩])
 .ret)
 .skip))
(.seq (.reg false [⟨(some 9), .load true 3 (.t 1), none, []⟩,
  ⟨(some 10), .call 52 [(.t 9)], none, [0]⟩,
  ⟨(some 11), .call 86 [(.t 10)], none, [1, 1]⟩,
  ⟨(some 2), .mv (.t 11), none, [2, 2, 0, 1, 2]⟩])
.ret)))
theorem r_reg_Param_Check : fnOf Tryz.prog n_reg_Param_Check = some (c_reg_Param_Check, [.t 2], 12, false) := by kernel_rfl

/-- tallymark/pack.New -/
abbrev n_pack_New : FuncId := 44
def c_pack_New : C := (.seq (.reg false [⟨(some 4), .mv (.d .nilp), none, []⟩,
  ⟨(some 5), .mv (.d (.int .i64 0)), none, [0]⟩])
(.seq (.seq (.reg false [⟨(some 6), .mv (.t 0), none, []⟩,
  ⟨(some 7), .bin .lss (.t 6) (.d (.int .i64 0)), none, [0]⟩,
  ⟨(some 8), .mv (.t 7), none, [1]⟩,
  ⟨(some 9), .mv (.t 0), some (8, false), [2]⟩,
  ⟨(some 10), .bin .gtr (.t 9) (.d (.int .i64 256)), some (8, false), [3, 2]⟩,
  ⟨(some 11), .pick (.t 8) (.d (.bool true)) (.t 10), none, [2, 4]⟩,
  ⟨(some 12), .mv (.t 11), none, [5, 2]⟩,
  ⟨(some 13), .mv (.t 1), some (12, false), [6]⟩,
  ⟨(some 14), .bin .lss (.t 13) (.d (.int .i64 1)), some (12, false), [7, 6]⟩,
  ⟨(some 15), .pick (.t 12) (.d (.bool true)) (.t 14), none, [6, 8]⟩,
  ⟨(some 16), .mv (.t 15), none, [9, 6]⟩,
  ⟨(some 17), .mv (.t 1), some (16, false), [10]⟩,
  ⟨(some 18), .bin .gtr (.t 17) (.d (.int .i64 32)), some (16, false), [11, 10]⟩,
  ⟨(some 19), .pick (.t 16) (.d (.bool true)) (.t 18), none, [10, 12]⟩])
(.cond (.t 19)
 (.seq (.reg false [⟨(some 4), .mv (.d .nilp), none, []⟩,
   ⟨(some 5), .mv (.d (.int .i64 10)), none, [0, 0]⟩])
 .ret)
 .skip))
(.seq (.reg false [⟨(some 20), .mv (.t 0), none, []⟩,
  ⟨(some 21), .mv (.t 1), none, []⟩,
  ⟨(some 22), .bin .mul (.t 20) (.t 21), none, [0, 1]⟩,
  ⟨(some 23), .bin .add (.t 22) (.d (.int .i64 64)), none, [2]⟩,
  ⟨(some 24), .bin .sub (.t 23) (.d (.int .i64 1)), none, [3]⟩,
  ⟨(some 25), .bin .quo (.t 24) (.d (.int .i64 64)), none, [4]⟩,
  ⟨(some 26), .mksl 80 1 8 [(.int .u64 0)] (.t 25) (.t 25), none, [5, 5]⟩,
  ⟨(some 27), .mv (.t 0), none, []⟩,
  ⟨(some 28), .mv (.t 1), none, []⟩,
  ⟨(some 29), .build [.nilsl, (.int .i64 0), (.int .i64 0)] [(0, 1, (.t 26)), (1, 1, (.t 27)), (2, 1, (.t 28))], none, [6, 7, 8]⟩,
  ⟨(some 30), .box 169 (.t 29), none, [9]⟩,
  ⟨(some 4), .mv (.t 30), none, [10, 0, 1, 2, 3, 4, 5, 6, 7, 8, 9, 10]⟩,
  ⟨(some 5), .mv (.d (.int .i64 0)), none, [11, 0, 1, 2, 3, 4, 5, 6, 7, 8, 9, 10, 11]⟩])
.ret)))
theorem r_pack_New : fnOf Tryz.prog n_pack_New = some (c_pack_New, [.t 4, .t 5], 31, false) := by kernel_rfl

/-- (tallymark/reg.Param).Bits -/
abbrev n_reg_Param_Bits : FuncId := 45
def c_reg_Param_Bits : C := (.seq (.reg false [⟨(some 1), .box 30 (.t 0), none, []⟩,
  ⟨(some 2), .mv (.d (.int .i64 0)), none, []⟩])
(.seq (.seq (.reg false [⟨(some 5), .load true 3 (.t 1), none, []⟩,
  ⟨(some 6), .call 43 [(.t 5)], none, [0]⟩,
  ⟨(some 7), .bin .neq (.t 6) (.d (.int .i64 0)), none, [1]⟩])
(.cond (.t 7)
 (.seq (.reg false [⟨(some 2), .mv (.d (.int .i64 0)), none, []⟩])
 .ret)
 .skip))
(.seq (.reg false [⟨(some 9), .load true 3 (.t 1), none, []⟩,
  ⟨(some 10), .call 87 [(.t 9)], none, [0]⟩,
  ⟨(some 8), .mv (.t 10), none, [1]⟩,
  ⟨(some 11), .ext (.t 8) 0, none, [2]⟩,
  ⟨(some 12), .ext (.t 8) 1, none, [2]⟩,
  ⟨(some 3), .mv (.t 11), none, [3, 1, 0, 1, 2, 3]⟩,
  ⟨(some 4), .mv (.t 12), none, [4, 5, 0, 1, 2, 3, 4, 5]⟩])
(.seq (.reg false [⟨(some 13), .mv (.t 3), none, []⟩,
  ⟨(some 14), .mv (.t 4), none, []⟩,
  ⟨(some 15), .bin .add (.t 13) (.t 14), none, [0, 1]⟩,
  ⟨(some 16), .bin .add (.t 15) (.d (.int .i64 1)), none, [2]⟩,
  ⟨(some 2), .mv (.t 16), none, [3, 0, 1, 2, 3]⟩])
.ret))))
theorem r_reg_Param_Bits : fnOf Tryz.prog n_reg_Param_Bits = some (c_reg_Param_Bits, [.t 2], 17, false) := by kernel_rfl

/-- slices.Clone[[]bool,bool] -/
abbrev n_slices_Clone_bool_bool : FuncId := 46
def c_slices_Clone_bool_bool : C := (.seq (.reg false [⟨(some 2), .mv (.d .nilsl), none, []⟩])
(.seq (.seq (.reg false [⟨(some 3), .mv (.t 0), none, []⟩,
  ⟨(some 4), .snl false (.t 3), none, [0]⟩])
(.cond (.t 4)
 (.seq (.reg false [⟨(some 2), .mv (.d .nilsl), none, []⟩])
 .ret)
 .skip))
(.seq (.reg false [⟨(some 5), .bsl0, none, []⟩,
  ⟨(some 6), .mv (.t 0), none, []⟩,
  ⟨(some 7), .app 4 1 1 (.t 5) (.t 6), none, [0, 1]⟩,
  ⟨(some 2), .mv (.t 7), none, [2, 2, 0, 1, 2]⟩])
.ret)))
theorem r_slices_Clone_bool_bool : fnOf Tryz.prog n_slices_Clone_bool_bool = some (c_slices_Clone_bool_bool, [.t 2], 8, false) := by kernel_rfl

/-- (tallymark/reg.Param).wrong -/
abbrev n_reg_Param_wrong : FuncId := 47
def c_reg_Param_wrong : C := (.seq (.reg false [⟨(some 2), .box 30 (.t 0), none, []⟩,
  ⟨(some 4), .mv (.d (.int .i64 0)), none, []⟩])
(.seq (.seq (.reg false [⟨(some 8), .load true 3 (.t 2), none, []⟩,
  ⟨(some 9), .call 43 [(.t 8)], none, [0]⟩,
  ⟨(some 5), .mv (.t 9), none, [1, 1, 0, 1]⟩])
(.seq (.reg false [⟨(some 10), .mv (.t 5), none, []⟩,
  ⟨(some 11), .bin .neq (.t 10) (.d (.int .i64 0)), none, [0]⟩])
(.cond (.t 11)
 (.seq (.reg false [⟨(some 12), .mv (.t 5), none, []⟩,
   ⟨(some 4), .mv (.t 12), none, [0, 0]⟩])
 .ret)
 .skip)))
(.seq (.seq (.reg false [⟨(some 13), .mv (.t 1), none, []⟩,
  ⟨(some 14), .len (.t 13), none, [0]⟩,
  ⟨(some 15), .mv (.d (.int .i64 0)), none, []⟩])
(.block 0 (.loop (.seq (.reg false [⟨(some 16), .bin .lss (.t 15) (.t 14), none, []⟩])
(.seq (.cond (.t 16)
 .skip
 (.exit 0))
(.seq (.block 1 (.seq (.reg false [⟨(some 17), .ix 3 (.t 13) (.t 15), none, []⟩,
  ⟨(some 18), .load true 3 (.t 17), none, [0]⟩,
  ⟨(some 7), .new 36 [(.int .i64 0), (.int .i64 0), (.bool false)], none, []⟩,
  ⟨none, .store 3 (.t 7) (.t 18), none, [2, 1, 0, 1, 2]⟩])
(.seq (.reg false [⟨(some 19), .load true 3 (.t 2), none, []⟩,
  ⟨(some 20), .load true 3 (.t 7), none, []⟩,
  ⟨(some 21), .call 19 [(.t 19), (.t 20)], none, [0, 1]⟩,
  ⟨(some 22), .un .not (.t 21), none, [2]⟩])
(.cond (.t 22)
 (.seq (.reg false [⟨(some 4), .mv (.d (.int .i64 2)), none, []⟩])
 .ret)
 .skip))))
(.reg false [⟨(some 23), .bin .add (.t 15) (.d (.int .i64 1)), none, []⟩,
  ⟨(some 15), .mv (.t 23), none, [0]⟩])))))))
(.seq (.reg false [⟨(some 4), .mv (.d (.int .i64 0)), none, []⟩])
.ret))))
theorem r_reg_Param_wrong : fnOf Tryz.prog n_reg_Param_wrong = some (c_reg_Param_wrong, [.t 4], 24, false) := by kernel_rfl

/-- (tallymark/reg.Param).thin -/
abbrev n_reg_Param_thin : FuncId := 48
def c_reg_Param_thin : C := (.seq (.reg false [⟨(some 1), .box 30 (.t 0), none, []⟩,
  ⟨(some 2), .new 120 [(.int .i64 0), (.int .i64 0)], none, []⟩])
(.seq (.reg false [⟨(some 3), .fa 1 (.t 1), none, []⟩,
  ⟨(some 4), .load false 1 (.t 3), none, [0]⟩,
  ⟨(some 5), .fa 2 (.t 1), none, []⟩,
  ⟨(some 6), .load false 1 (.t 5), none, [2]⟩,
  ⟨(some 7), .build [(.int .i64 0), (.int .i64 0)] [(0, 1, (.t 4)), (1, 1, (.t 6))], none, [1, 3]⟩,
  ⟨none, .store 2 (.t 2) (.t 7), none, [4, 0, 1, 2, 3, 4]⟩])
.ret))
theorem r_reg_Param_thin : fnOf Tryz.prog n_reg_Param_thin = some (c_reg_Param_thin, [.cell 2 true 2], 8, false) := by kernel_rfl

/-- (tallymark/thin.Param).Add -/
abbrev n_thin_Param_Add : FuncId := 49
def c_thin_Param_Add : C := (.seq (.reg false [⟨(some 4), .box 120 (.t 0), none, []⟩,
  ⟨(some 6), .box 117 (.t 2), none, []⟩,
  ⟨(some 8), .new 117 [(.int .i64 0), (.int .i64 0), (.bool false)], none, []⟩,
  ⟨(some 9), .mv (.d (.int .i64 0)), none, []⟩])
(.seq (.seq (.reg false [⟨(some 14), .load true 2 (.t 4), none, []⟩,
  ⟨(some 15), .load true 3 (.t 6), none, []⟩,
  ⟨(some 16), .bsl 117 3 1 [(.int .i64 0), (.int .i64 0), (.bool false)] [(0, 3, (.t 15))], none, [1]⟩,
  ⟨(some 17), .call 88 [(.t 14), (.t 16)], none, [0, 2]⟩,
  ⟨(some 10), .mv (.t 17), none, [3, 3, 0, 1, 2, 3]⟩])
(.seq (.reg false [⟨(some 18), .mv (.t 10), none, []⟩,
  ⟨(some 19), .bin .neq (.t 18) (.d (.int .i64 0)), none, [0]⟩])
(.cond (.t 19)
 (.seq (.reg false [⟨(some 20), .load true 3 (.t 6), none, []⟩,
   ⟨(some 21), .mv (.t 10), none, []⟩,
   ⟨none, .store 3 (.t 8) (.t 20), none, [0, 0]⟩,
   ⟨(some 9), .mv (.t 21), none, [1, 2, 0, 1, 2]⟩])
 .ret)
 .skip)))
(.seq (.seq (.reg false [⟨(some 22), .mv (.t 3), none, []⟩,
  ⟨(some 23), .bin .gtr (.t 22) (.d (.int .i64 1048576)), none, [0]⟩])
(.cond (.t 23)
 (.seq (.reg false [⟨(some 24), .load true 3 (.t 6), none, []⟩,
   ⟨none, .store 3 (.t 8) (.t 24), none, [0, 0]⟩,
   ⟨(some 9), .mv (.d (.int .i64 2)), none, [1, 0, 1]⟩])
 .ret)
 .skip))
(.seq (.reg false [⟨(some 25), .load true 3 (.t 6), none, []⟩,
  ⟨(some 11), .new 117 [(.int .i64 0), (.int .i64 0), (.bool false)], none, []⟩,
  ⟨none, .store 3 (.t 11) (.t 25), none, [1, 0, 0, 1]⟩])
(.seq (.seq (.reg false [⟨(some 26), .mv (.t 3), none, []⟩,
  ⟨(some 27), .mm true [(.d (.int .i64 0)), (.t 26)], none, [0]⟩,
  ⟨(some 28), .mv (.d (.int .i64 0)), none, []⟩])
(.block 0 (.loop (.seq (.reg false [⟨(some 29), .bin .lss (.t 28) (.t 27), none, []⟩])
(.seq (.cond (.t 29)
 .skip
 (.exit 0))
(.seq (.block 1 (.seq (.reg false [⟨(some 31), .load true 2 (.t 4), none, []⟩,
  ⟨(some 32), .mv (.t 1), none, []⟩,
  ⟨(some 33), .load true 3 (.t 11), none, []⟩,
  ⟨(some 34), .call 89 [(.t 31), (.t 32), (.t 33)], none, [0, 1, 2]⟩,
  ⟨(some 30), .mv (.t 34), none, [3]⟩,
  ⟨(some 35), .ext (.t 30) 0, none, [4]⟩,
  ⟨(some 36), .ext (.t 30) 1, none, [4]⟩,
  ⟨(some 12), .new 117 [(.int .i64 0), (.int .i64 0), (.bool false)], none, []⟩,
  ⟨none, .store 3 (.t 12) (.t 35), none, [7, 5, 3, 0, 1, 2, 3, 4, 5, 7]⟩,
  ⟨(some 13), .mv (.t 36), none, [6, 8, 0, 1, 2, 3, 4, 5, 6, 7, 8]⟩])
(.seq (.seq (.reg false [⟨(some 37), .mv (.t 13), none, []⟩,
  ⟨(some 38), .bin .neq (.t 37) (.d (.int .i64 0)), none, [0]⟩])
(.cond (.t 38)
 (.seq (.reg false [⟨(some 39), .load true 3 (.t 6), none, []⟩,
   ⟨(some 40), .mv (.t 13), none, []⟩,
   ⟨none, .store 3 (.t 8) (.t 39), none, [0, 0]⟩,
   ⟨(some 9), .mv (.t 40), none, [1, 2, 0, 1, 2]⟩])
 .ret)
 .skip))
(.reg false [⟨(some 41), .load true 3 (.t 12), none, []⟩,
  ⟨none, .store 3 (.t 11) (.t 41), none, [0, 0]⟩]))))
(.reg false [⟨(some 42), .bin .add (.t 28) (.d (.int .i64 1)), none, []⟩,
  ⟨(some 28), .mv (.t 42), none, [0]⟩])))))))
(.seq (.reg false [⟨(some 43), .load true 3 (.t 11), none, []⟩,
  ⟨none, .store 3 (.t 8) (.t 43), none, [0, 0]⟩,
  ⟨(some 9), .mv (.d (.int .i64 0)), none, [1, 0, 1]⟩])
.ret))))))
theorem r_thin_Param_Add : fnOf Tryz.prog n_thin_Param_Add = some (c_thin_Param_Add, [.cell 8 true 3, .t 9], 44, false) := by kernel_rfl

/-- (tallymark/reg.State).thinned -/
abbrev n_reg_State_thinned : FuncId := 50
def c_reg_State_thinned : C := (.seq (.reg false [⟨(some 1), .box 36 (.t 0), none, []⟩,
  ⟨(some 2), .new 117 [(.int .i64 0), (.int .i64 0), (.bool false)], none, []⟩])
(.seq (.reg false [⟨(some 3), .fa 0 (.t 1), none, []⟩,
  ⟨(some 4), .load false 1 (.t 3), none, [0]⟩,
  ⟨(some 5), .fa 1 (.t 1), none, []⟩,
  ⟨(some 6), .load false 1 (.t 5), none, [2]⟩,
  ⟨(some 7), .fa 2 (.t 1), none, []⟩,
  ⟨(some 8), .load false 1 (.t 7), none, [4]⟩,
  ⟨(some 9), .build [(.int .i64 0), (.int .i64 0), (.bool false)] [(0, 1, (.t 4)), (1, 1, (.t 6)), (2, 1, (.t 8))], none, [1, 3, 5]⟩,
  ⟨none, .store 3 (.t 2) (.t 9), none, [6, 0, 1, 2, 3, 4, 5, 6]⟩])
.ret))
theorem r_reg_State_thinned : fnOf Tryz.prog n_reg_State_thinned = some (c_reg_State_thinned, [.cell 2 true 3], 10, false) := by kernel_rfl

/-- tallymark/reg.unthinned -/
abbrev n_reg_unthinned : FuncId := 51
def c_reg_unthinned : C := (.seq (.reg false [⟨(some 1), .box 117 (.t 0), none, []⟩,
  ⟨(some 2), .new 36 [(.int .i64 0), (.int .i64 0), (.bool false)], none, []⟩])
(.seq (.reg false [⟨(some 3), .fa 0 (.t 1), none, []⟩,
  ⟨(some 4), .load false 1 (.t 3), none, [0]⟩,
  ⟨(some 5), .fa 1 (.t 1), none, []⟩,
  ⟨(some 6), .load false 1 (.t 5), none, [2]⟩,
  ⟨(some 7), .fa 2 (.t 1), none, []⟩,
  ⟨(some 8), .load false 1 (.t 7), none, [4]⟩,
  ⟨(some 9), .build [(.int .i64 0), (.int .i64 0), (.bool false)] [(0, 1, (.t 4)), (1, 1, (.t 6)), (2, 1, (.t 8))], none, [1, 3, 5]⟩,
  ⟨none, .store 3 (.t 2) (.t 9), none, [6, 0, 1, 2, 3, 4, 5, 6]⟩])
.ret))
theorem r_reg_unthinned : fnOf Tryz.prog n_reg_unthinned = some (c_reg_unthinned, [.cell 2 true 3], 10, false) := by kernel_rfl

/-- (tallymark/reg.Param).chain -/
abbrev n_reg_Param_chain : FuncId := 52
def c_reg_Param_chain : C := (.seq (.reg false [⟨(some 1), .box 30 (.t 0), none, []⟩,
  ⟨(some 2), .new 129 [(.int .i64 0), (.int .i64 0), (.int .i64 0)], none, []⟩])
(.seq (.reg false [⟨(some 3), .fa 0 (.t 1), none, []⟩,
  ⟨(some 4), .load false 1 (.t 3), none, [0]⟩,
  ⟨(some 5), .fa 1 (.t 1), none, []⟩,
  ⟨(some 6), .load false 1 (.t 5), none, [2]⟩,
  ⟨(some 7), .fa 2 (.t 1), none, []⟩,
  ⟨(some 8), .load false 1 (.t 7), none, [4]⟩,
  ⟨(some 9), .build [(.int .i64 0), (.int .i64 0), (.int .i64 0)] [(0, 1, (.t 4)), (1, 1, (.t 6)), (2, 1, (.t 8))], none, [1, 3, 5]⟩,
  ⟨none, .store 3 (.t 2) (.t 9), none, [6, 0, 1, 2, 3, 4, 5, 6]⟩])
.ret))
theorem r_reg_Param_chain : fnOf Tryz.prog n_reg_Param_chain = some (c_reg_Param_chain, [.cell 2 true 3], 10, false) := by kernel_rfl

/-- (tallymark/chain.Param).Add -/
abbrev n_chain_Param_Add : FuncId := 53
def c_chain_Param_Add : C := (.seq (.reg false [⟨(some 4), .box 129 (.t 0), none, []⟩,
  ⟨(some 5), .box 38 (.t 1), none, []⟩,
  ⟨(some 6), .box 126 (.t 2), none, []⟩,
  ⟨(some 8), .new 126 [(.int .i64 0), (.bool false)], none, []⟩,
  ⟨(some 9), .mv (.d (.int .i64 0)), none, []⟩])
(.seq (.seq (.reg false [⟨(some 14), .load true 3 (.t 4), none, []⟩,
  ⟨(some 15), .fa 0 (.t 6), none, []⟩,
  ⟨(some 16), .load false 1 (.t 15), none, [1]⟩,
  ⟨(some 17), .bsl 3 1 1 [(.int .i64 0)] [(0, 1, (.t 16))], none, [2]⟩,
  ⟨(some 18), .call 90 [(.t 14), (.t 17)], none, [0, 3]⟩,
  ⟨(some 10), .mv (.t 18), none, [4, 4, 0, 1, 2, 3, 4]⟩])
(.seq (.reg false [⟨(some 19), .mv (.t 10), none, []⟩,
  ⟨(some 20), .bin .neq (.t 19) (.d (.int .i64 0)), none, [0]⟩])
(.cond (.t 20)
 (.seq (.reg false [⟨(some 21), .load true 2 (.t 6), none, []⟩,
   ⟨(some 22), .mv (.t 10), none, []⟩,
   ⟨none, .store 2 (.t 8) (.t 21), none, [0, 0]⟩,
   ⟨(some 9), .mv (.t 22), none, [1, 2, 0, 1, 2]⟩])
 .ret)
 .skip)))
(.seq (.seq (.reg false [⟨(some 23), .mv (.t 3), none, []⟩,
  ⟨(some 24), .bin .gtr (.t 23) (.d (.int .i64 1048576)), none, [0]⟩])
(.cond (.t 24)
 (.seq (.reg false [⟨(some 25), .load true 2 (.t 6), none, []⟩,
   ⟨none, .store 2 (.t 8) (.t 25), none, [0, 0]⟩,
   ⟨(some 9), .mv (.d (.int .i64 2)), none, [1, 0, 1]⟩])
 .ret)
 .skip))
(.seq (.reg false [⟨(some 26), .load true 3 (.t 4), none, []⟩,
  ⟨(some 27), .call 91 [(.t 26)], none, [0]⟩,
  ⟨(some 11), .new 176 [.nilifc], none, []⟩,
  ⟨none, .store 1 (.t 11) (.t 27), none, [2, 1, 1, 0, 1, 2]⟩])
(.seq (.reg false [⟨(some 28), .load true 2 (.t 6), none, []⟩,
  ⟨(some 12), .new 126 [(.int .i64 0), (.bool false)], none, []⟩,
  ⟨none, .store 2 (.t 12) (.t 28), none, [1, 0, 0, 1]⟩,
  ⟨(some 13), .mv (.d (.int .i64 0)), none, [2, 0, 1, 2]⟩])
(.seq (.seq (.reg false [⟨(some 29), .mv (.t 3), none, []⟩,
  ⟨(some 30), .mm true [(.d (.int .i64 0)), (.t 29)], none, [0]⟩,
  ⟨(some 31), .mv (.d (.int .i64 0)), none, []⟩])
(.block 0 (.loop (.seq (.reg false [⟨(some 32), .bin .lss (.t 31) (.t 30), none, []⟩])
(.seq (.cond (.t 32)
 .skip
 (.exit 0))
(.seq (.block 1 (.seq (.reg false [⟨(some 34), .load true 3 (.t 4), none, []⟩,
  ⟨(some 35), .load true 2 (.t 12), none, []⟩,
  ⟨(some 36), .mkf (.func 93) [(.t 11), (.t 5)], none, []⟩,
  ⟨(some 37), .call 92 [(.t 34), (.t 35), (.t 36)], none, [0, 1, 2]⟩,
  ⟨(some 33), .mv (.t 37), none, [3]⟩,
  ⟨(some 38), .ext (.t 33) 0, none, [4]⟩,
  ⟨(some 39), .ext (.t 33) 1, none, [4]⟩,
  ⟨none, .store 2 (.t 12) (.t 38), none, [5, 3, 0, 1, 2, 3, 4, 5]⟩,
  ⟨(some 13), .mv (.t 39), none, [6, 7, 0, 1, 2, 3, 4, 5, 6, 7]⟩])
(.seq (.seq (.reg false [⟨(some 40), .mv (.t 13), none, []⟩,
  ⟨(some 41), .bin .neq (.t 40) (.d (.int .i64 0)), none, [0]⟩])
(.cond (.t 41)
 (.seq (.reg false [⟨(some 42), .load true 2 (.t 6), none, []⟩,
   ⟨(some 43), .mv (.t 13), none, []⟩,
   ⟨none, .store 2 (.t 8) (.t 42), none, [0, 0]⟩,
   ⟨(some 9), .mv (.t 43), none, [1, 2, 0, 1, 2]⟩])
 .ret)
 .skip))
(.seq (.reg true [⟨(some 44), .fa 1 (.t 12), none, []⟩,
  ⟨(some 45), .load false 1 (.t 44), none, [0]⟩,
  ⟨(some 46), .mv (.t 45), none, [1]⟩,
  ⟨(some 47), .fa 0 (.t 12), some (46, true), [2]⟩,
  ⟨(some 48), .load false 1 (.t 47), some (46, true), [3, 2]⟩,
  ⟨(some 49), .load true 3 (.t 4), some (46, true), [2]⟩,
  ⟨(some 50), .call 65 [(.t 49)], some (46, true), [5, 2, 2]⟩,
  ⟨(some 51), .bin .eql (.t 48) (.t 50), some (46, true), [4, 6, 2]⟩,
  ⟨(some 52), .pick (.t 46) (.t 51) (.d (.bool false)), none, [2, 7]⟩])
(.cond (.t 52)
 (.exit 0)
 .skip)))))
(.reg false [⟨(some 53), .bin .add (.t 31) (.d (.int .i64 1)), none, []⟩,
  ⟨(some 31), .mv (.t 53), none, [0]⟩])))))))
(.seq (.reg false [⟨(some 54), .load true 2 (.t 12), none, []⟩,
  ⟨none, .store 2 (.t 8) (.t 54), none, [0, 0]⟩,
  ⟨(some 9), .mv (.d (.int .i64 0)), none, [1, 0, 1]⟩])
.ret)))))))
theorem r_chain_Param_Add : fnOf Tryz.prog n_chain_Param_Add = some (c_chain_Param_Add, [.cell 8 true 2, .t 9], 55, false) := by kernel_rfl

/-- (tallymark/reg.State).link -/
abbrev n_reg_State_link : FuncId := 54
def c_reg_State_link : C := (.seq (.reg false [⟨(some 1), .box 36 (.t 0), none, []⟩,
  ⟨(some 2), .new 126 [(.int .i64 0), (.bool false)], none, []⟩])
(.seq (.reg false [⟨(some 3), .fa 0 (.t 1), none, []⟩,
  ⟨(some 4), .load false 1 (.t 3), none, [0]⟩,
  ⟨(some 5), .fa 2 (.t 1), none, []⟩,
  ⟨(some 6), .load false 1 (.t 5), none, [2]⟩,
  ⟨(some 7), .build [(.int .i64 0), (.bool false)] [(0, 1, (.t 4)), (1, 1, (.t 6))], none, [1, 3]⟩,
  ⟨none, .store 2 (.t 2) (.t 7), none, [4, 0, 1, 2, 3, 4]⟩])
.ret))
theorem r_reg_State_link : fnOf Tryz.prog n_reg_State_link = some (c_reg_State_link, [.cell 2 true 2], 8, false) := by kernel_rfl

/-- tallymark/reg.linked -/
abbrev n_reg_linked : FuncId := 55
def c_reg_linked : C := (.seq (.reg false [⟨(some 1), .box 126 (.t 0), none, []⟩,
  ⟨(some 2), .new 36 [(.int .i64 0), (.int .i64 0), (.bool false)], none, []⟩])
(.seq (.reg false [⟨(some 3), .fa 0 (.t 1), none, []⟩,
  ⟨(some 4), .load false 1 (.t 3), none, [0]⟩,
  ⟨(some 5), .fa 1 (.t 1), none, []⟩,
  ⟨(some 6), .load false 1 (.t 5), none, [2]⟩,
  ⟨(some 7), .build [(.int .i64 0), (.int .i64 0), (.bool false)] [(0, 1, (.t 4)), (2, 1, (.t 6))], none, [1, 3]⟩,
  ⟨none, .store 3 (.t 2) (.t 7), none, [4, 0, 1, 2, 3, 4]⟩])
.ret))
theorem r_reg_linked : fnOf Tryz.prog n_reg_linked = some (c_reg_linked, [.cell 2 true 3], 8, false) := by kernel_rfl

/-- (*tallymark/pack.Vector).Get -/
abbrev n_pack_Vector_Get : FuncId := 56
def c_pack_Vector_Get : C := (.seq (.reg false [⟨(some 4), .mv (.d (.int .u64 0)), none, []⟩,
  ⟨(some 5), .mv (.d (.int .i64 0)), none, [0]⟩])
(.seq (.seq (.reg false [⟨(some 9), .mv (.t 1), none, []⟩,
  ⟨(some 10), .bin .lss (.t 9) (.d (.int .i64 0)), none, [0]⟩,
  ⟨(some 11), .mv (.t 10), none, [1]⟩,
  ⟨(some 12), .mv (.t 1), some (11, false), [2]⟩,
  ⟨(some 13), .mv (.t 0), some (11, false), [2]⟩,
  ⟨(some 14), .chk (.t 13), some (11, false), [4, 2]⟩,
  ⟨(some 15), .fa 1 (.t 14), some (11, false), [5, 2]⟩,
  ⟨(some 16), .load false 1 (.t 15), some (11, false), [6, 2]⟩,
  ⟨(some 17), .bin .geq (.t 12) (.t 16), some (11, false), [3, 7, 2]⟩,
  ⟨(some 18), .pick (.t 11) (.d (.bool true)) (.t 17), none, [2, 8]⟩])
(.cond (.t 18)
 (.seq (.reg false [⟨(some 4), .mv (.d (.int .u64 0)), none, []⟩,
   ⟨(some 5), .mv (.d (.int .i64 1)), none, [0, 0]⟩])
 .ret)
 .skip))
(.seq (.reg false [⟨(some 20), .mv (.t 0), none, []⟩,
  ⟨(some 21), .mv (.t 1), none, []⟩,
  ⟨(some 22), .call 94 [(.t 20), (.t 21)], none, [0, 1]⟩,
  ⟨(some 19), .mv (.t 22), none, [2]⟩,
  ⟨(some 23), .ext (.t 19) 0, none, [3]⟩,
  ⟨(some 24), .ext (.t 19) 1, none, [3]⟩,
  ⟨(some 6), .mv (.t 23), none, [4, 2, 0, 1, 2, 3, 4]⟩,
  ⟨(some 7), .mv (.t 24), none, [5, 6, 0, 1, 2, 3, 4, 5, 6]⟩])
(.seq (.reg false [⟨(some 25), .mv (.t 0), none, []⟩,
  ⟨(some 26), .chk (.t 25), none, [0]⟩,
  ⟨(some 27), .fa 0 (.t 26), none, [1]⟩,
  ⟨(some 28), .load false 1 (.t 27), none, [2]⟩,
  ⟨(some 29), .mv (.t 6), none, []⟩,
  ⟨(some 30), .ix 1 (.t 28) (.t 29), none, [3, 4]⟩,
  ⟨(some 31), .load false 1 (.t 30), none, [5]⟩,
  ⟨(some 32), .mv (.t 7), none, []⟩,
  ⟨(some 33), .bin .shr (.t 31) (.t 32), none, [6, 7]⟩,
  ⟨(some 8), .mv (.t 33), none, [8, 0, 1, 2, 3, 4, 5, 6, 7, 8]⟩])
(.seq (.seq (.reg false [⟨(some 34), .mv (.t 7), none, []⟩,
  ⟨(some 35), .mv (.t 0), none, []⟩,
  ⟨(some 36), .chk (.t 35), none, [1]⟩,
  ⟨(some 37), .fa 2 (.t 36), none, [2]⟩,
  ⟨(some 38), .load false 1 (.t 37), none, [3]⟩,
  ⟨(some 39), .bin .add (.t 34) (.t 38), none, [0, 4]⟩,
  ⟨(some 40), .bin .gtr (.t 39) (.d (.int .i64 64)), none, [5]⟩])
(.cond (.t 40)
 (.reg false [⟨(some 41), .mv (.t 8), none, []⟩,
   ⟨(some 42), .mv (.t 0), none, []⟩,
   ⟨(some 43), .chk (.t 42), none, [1]⟩,
   ⟨(some 44), .fa 0 (.t 43), none, [2]⟩,
   ⟨(some 45), .load false 1 (.t 44), none, [3]⟩,
   ⟨(some 46), .mv (.t 6), none, []⟩,
   ⟨(some 47), .bin .add (.t 46) (.d (.int .i64 1)), none, [5]⟩,
   ⟨(some 48), .ix 1 (.t 45) (.t 47), none, [4, 6]⟩,
   ⟨(some 49), .load false 1 (.t 48), none, [7]⟩,
   ⟨(some 50), .mv (.t 7), none, []⟩,
   ⟨(some 51), .bin .sub (.d (.int .i64 64)) (.t 50), none, [9]⟩,
   ⟨(some 52), .bin .shl (.t 49) (.t 51), none, [8, 10]⟩,
   ⟨(some 53), .bin .or (.t 41) (.t 52), none, [0, 11]⟩,
   ⟨(some 8), .mv (.t 53), none, [12, 0, 1, 2, 3, 4, 5, 6, 7, 8, 9, 10, 11, 12]⟩])
 .skip))
(.seq (.reg false [⟨(some 54), .mv (.t 8), none, []⟩,
  ⟨(some 55), .mv (.t 0), none, []⟩,
  ⟨(some 56), .call 95 [(.t 55)], none, [1]⟩,
  ⟨(some 57), .bin .and (.t 54) (.t 56), none, [0, 2]⟩,
  ⟨(some 4), .mv (.t 57), none, [3, 2, 0, 1, 2, 3]⟩,
  ⟨(some 5), .mv (.d (.int .i64 0)), none, [4, 0, 1, 2, 3, 4]⟩])
.ret))))))
theorem r_pack_Vector_Get : fnOf Tryz.prog n_pack_Vector_Get = some (c_pack_Vector_Get, [.t 4, .t 5], 58, false) := by kernel_rfl

/-- (*tallymark/bits.Writer).Num -/
abbrev n_bits_Writer_Num : FuncId := 57
def c_bits_Writer_Num : C := (.seq (.reg false [⟨(some 6), .mv (.d (.int .i64 0)), none, []⟩])
(.seq (.seq (.reg false [⟨(some 8), .mv (.t 2), none, []⟩,
  ⟨(some 9), .call 96 [(.t 8)], none, [0]⟩,
  ⟨(some 10), .un .not (.t 9), none, [1]⟩,
  ⟨(some 11), .mv (.t 10), none, [2, 1]⟩,
  ⟨(some 12), .mv (.t 1), some (11, false), [3]⟩,
  ⟨(some 13), .mv (.t 2), some (11, false), [3]⟩,
  ⟨(some 14), .call 97 [(.t 12), (.t 13)], some (11, false), [4, 5, 3, 3]⟩,
  ⟨(some 15), .un .not (.t 14), some (11, false), [6, 3]⟩,
  ⟨(some 16), .pick (.t 11) (.d (.bool true)) (.t 15), none, [3, 7]⟩])
(.cond (.t 16)
 (.seq (.reg false [⟨(some 6), .mv (.d (.int .i64 2)), none, []⟩])
 .ret)
 .skip))
(.seq (.seq (.reg false [⟨(some 17), .mv (.t 2), none, []⟩,
  ⟨(some 18), .mv (.d (.int .i64 0)), none, []⟩])
(.block 0 (.loop (.seq (.reg false [⟨(some 19), .bin .lss (.t 18) (.t 17), none, []⟩])
(.seq (.cond (.t 19)
 .skip
 (.exit 0))
(.seq (.block 1 (.seq (.reg false [⟨(some 20), .mv (.t 18), none, []⟩,
  ⟨(some 7), .mv (.t 20), none, [0, 0]⟩])
(.reg false [⟨(some 21), .mv (.t 0), none, []⟩,
  ⟨(some 22), .mv (.t 1), none, []⟩,
  ⟨(some 23), .mv (.t 2), none, []⟩,
  ⟨(some 24), .bin .sub (.t 23) (.d (.int .i64 1)), none, [2]⟩,
  ⟨(some 25), .mv (.t 7), none, []⟩,
  ⟨(some 26), .bin .sub (.t 24) (.t 25), none, [3, 4]⟩,
  ⟨(some 27), .bin .shr (.t 22) (.t 26), none, [1, 5]⟩,
  ⟨(some 28), .bin .and (.t 27) (.d (.int .u64 1)), none, [6]⟩,
  ⟨(some 29), .bin .eql (.t 28) (.d (.int .u64 1)), none, [7]⟩,
  ⟨(some 30), .call 98 [(.t 21), (.t 29)], none, [0, 8]⟩])))
(.reg false [⟨(some 31), .bin .add (.t 18) (.d (.int .i64 1)), none, []⟩,
  ⟨(some 18), .mv (.t 31), none, [0]⟩])))))))
(.seq (.reg false [⟨(some 6), .mv (.d (.int .i64 0)), none, []⟩])
.ret))))
theorem r_bits_Writer_Num : fnOf Tryz.prog n_bits_Writer_Num = some (c_bits_Writer_Num, [.t 6], 32, false) := by kernel_rfl

/-- (*tallymark/pack.Vector).Width -/
abbrev n_pack_Vector_Width : FuncId := 58
def c_pack_Vector_Width : C := (.seq (.reg false [⟨(some 2), .mv (.d (.int .i64 0)), none, []⟩])
(.seq (.reg false [⟨(some 3), .mv (.t 0), none, []⟩,
  ⟨(some 4), .chk (.t 3), none, [0]⟩,
  ⟨(some 5), .fa 2 (.t 4), none, [1]⟩,
  ⟨(some 6), .load false 1 (.t 5), none, [2]⟩,
  ⟨(some 2), .mv (.t 6), none, [3, 0, 1, 2, 3]⟩])
.ret))
theorem r_pack_Vector_Width : fnOf Tryz.prog n_pack_Vector_Width = some (c_pack_Vector_Width, [.t 2], 7, false) := by kernel_rfl

/-- (tallymark/reg.Param).Read -/
abbrev n_reg_Param_Read : FuncId := 59
def c_reg_Param_Read : C := (.seq (.reg false [⟨(some 2), .box 30 (.t 0), none, []⟩,
  ⟨(some 4), .new 36 [(.int .i64 0), (.int .i64 0), (.bool false)], none, []⟩,
  ⟨(some 5), .mv (.d (.int .i64 0)), none, []⟩])
(.seq (.seq (.reg false [⟨(some 16), .load true 3 (.t 2), none, []⟩,
  ⟨(some 17), .call 43 [(.t 16)], none, [0]⟩,
  ⟨(some 6), .mv (.t 17), none, [1, 1, 0, 1]⟩])
(.seq (.reg false [⟨(some 18), .mv (.t 6), none, []⟩,
  ⟨(some 19), .bin .neq (.t 18) (.d (.int .i64 0)), none, [0]⟩])
(.cond (.t 19)
 (.seq (.reg false [⟨(some 20), .build [(.int .i64 0), (.int .i64 0), (.bool false)] [], none, []⟩,
   ⟨(some 21), .mv (.t 6), none, []⟩,
   ⟨none, .store 3 (.t 4) (.t 20), none, [0, 0]⟩,
   ⟨(some 5), .mv (.t 21), none, [1, 2, 0, 1, 2]⟩])
 .ret)
 .skip)))
(.seq (.seq (.reg true [⟨(some 22), .mv (.t 1), none, []⟩,
  ⟨(some 23), .call 99 [(.t 22)], none, [0]⟩,
  ⟨(some 24), .load true 3 (.t 2), none, []⟩,
  ⟨(some 25), .call 45 [(.t 24)], none, [2, 1]⟩,
  ⟨(some 26), .bin .lss (.t 23) (.t 25), none, [1, 3]⟩])
(.cond (.t 26)
 (.seq (.reg false [⟨(some 27), .build [(.int .i64 0), (.int .i64 0), (.bool false)] [], none, []⟩,
   ⟨none, .store 3 (.t 4) (.t 27), none, [0, 0]⟩,
   ⟨(some 5), .mv (.d (.int .i64 5)), none, [1, 0, 1]⟩])
 .ret)
 .skip))
(.seq (.reg false [⟨(some 29), .load true 3 (.t 2), none, []⟩,
  ⟨(some 30), .call 87 [(.t 29)], none, [0]⟩,
  ⟨(some 28), .mv (.t 30), none, [1]⟩,
  ⟨(some 31), .ext (.t 28) 0, none, [2]⟩,
  ⟨(some 32), .ext (.t 28) 1, none, [2]⟩,
  ⟨(some 7), .mv (.t 31), none, [3, 1, 0, 1, 2, 3]⟩,
  ⟨(some 8), .mv (.t 32), none, [4, 5, 0, 1, 2, 3, 4, 5]⟩])
(.seq (.reg false [⟨(some 34), .mv (.t 1), none, []⟩,
  ⟨(some 35), .mv (.t 7), none, []⟩,
  ⟨(some 36), .call 72 [(.t 34), (.t 35)], none, [0, 1]⟩,
  ⟨(some 33), .mv (.t 36), none, [2]⟩,
  ⟨(some 37), .ext (.t 33) 0, none, [3]⟩,
  ⟨(some 38), .ext (.t 33) 1, none, [3]⟩,
  ⟨(some 9), .mv (.t 37), none, [4, 2, 0, 1, 2, 3, 4]⟩,
  ⟨(some 10), .mv (.t 38), none, [5, 6, 0, 1, 2, 3, 4, 5, 6]⟩])
(.seq (.reg false [⟨(some 40), .mv (.t 1), none, []⟩,
  ⟨(some 41), .mv (.t 8), none, []⟩,
  ⟨(some 42), .call 72 [(.t 40), (.t 41)], none, [0, 1]⟩,
  ⟨(some 39), .mv (.t 42), none, [2]⟩,
  ⟨(some 43), .ext (.t 39) 0, none, [3]⟩,
  ⟨(some 44), .ext (.t 39) 1, none, [3]⟩,
  ⟨(some 11), .mv (.t 43), none, [4, 2, 0, 1, 2, 3, 4]⟩,
  ⟨(some 12), .mv (.t 44), none, [5, 6, 0, 1, 2, 3, 4, 5, 6]⟩])
(.seq (.reg false [⟨(some 46), .mv (.t 1), none, []⟩,
  ⟨(some 47), .call 100 [(.t 46)], none, [0]⟩,
  ⟨(some 45), .mv (.t 47), none, [1]⟩,
  ⟨(some 48), .ext (.t 45) 0, none, [2]⟩,
  ⟨(some 49), .ext (.t 45) 1, none, [2]⟩,
  ⟨(some 13), .mv (.t 48), none, [3, 1, 0, 1, 2, 3]⟩,
  ⟨(some 14), .mv (.t 49), none, [4, 5, 0, 1, 2, 3, 4, 5]⟩])
(.seq (.reg false [⟨(some 50), .mv (.t 9), none, []⟩,
  ⟨(some 51), .conv .i64 (.t 50), none, [0]⟩,
  ⟨(some 52), .mv (.t 11), none, []⟩,
  ⟨(some 53), .conv .i64 (.t 52), none, [2]⟩,
  ⟨(some 54), .mv (.t 13), none, []⟩,
  ⟨(some 55), .build [(.int .i64 0), (.int .i64 0), (.bool false)] [(0, 1, (.t 51)), (1, 1, (.t 53)), (2, 1, (.t 54))], none, [1, 3, 4]⟩,
  ⟨(some 15), .new 36 [(.int .i64 0), (.int .i64 0), (.bool false)], none, []⟩,
  ⟨none, .store 3 (.t 15) (.t 55), none, [6, 5, 0, 1, 2, 3, 4, 5, 6]⟩])
(.seq (.seq (.reg false [⟨(some 56), .load true 3 (.t 2), none, []⟩,
  ⟨(some 57), .load true 3 (.t 15), none, []⟩,
  ⟨(some 58), .call 19 [(.t 56), (.t 57)], none, [0, 1]⟩,
  ⟨(some 59), .un .not (.t 58), none, [2]⟩])
(.cond (.t 59)
 (.seq (.reg false [⟨(some 60), .build [(.int .i64 0), (.int .i64 0), (.bool false)] [], none, []⟩,
   ⟨none, .store 3 (.t 4) (.t 60), none, [0, 0]⟩,
   ⟨(some 5), .mv (.d (.int .i64 4)), none, [1, 0, 1]⟩])
 .ret)
 .skip))
(.seq (.reg false [⟨(some 61), .load true 3 (.t 15), none, []⟩,
  ⟨none, .store 3 (.t 4) (.t 61), none, [0, 0]⟩,
  ⟨(some 5), .mv (.d (.int .i64 0)), none, [1, 0, 1]⟩])
.ret))))))))))
theorem r_reg_Param_Read : fnOf Tryz.prog n_reg_Param_Read = some (c_reg_Param_Read, [.cell 4 true 3, .t 5], 62, false) := by kernel_rfl

/-- tallymark/bits.Read -/
abbrev n_bits_Read : FuncId := 60
def c_bits_Read : C := (.seq (.reg false [⟨(some 2), .mv (.d .nilp), none, []⟩])
(.seq (.reg false [⟨(some 3), .mv (.t 0), none, []⟩,
  ⟨(some 4), .call 101 [(.t 3)], none, [0]⟩,
  ⟨(some 5), .build [.nilsl, (.int .i64 0)] [(0, 1, (.t 4))], none, [1]⟩,
  ⟨(some 6), .box 190 (.t 5), none, [2]⟩,
  ⟨(some 2), .mv (.t 6), none, [3, 1, 0, 1, 2, 3]⟩])
.ret))
theorem r_bits_Read : fnOf Tryz.prog n_bits_Read = some (c_bits_Read, [.t 2], 7, false) := by kernel_rfl

/-- (*tallymark/bits.Writer).Bytes -/
abbrev n_bits_Writer_Bytes : FuncId := 61
def c_bits_Writer_Bytes : C := (.seq (.reg false [⟨(some 2), .mv (.d .nilsl), none, []⟩])
(.seq (.reg false [⟨(some 4), .mv (.t 0), none, []⟩,
  ⟨(some 5), .chk (.t 4), none, [0]⟩,
  ⟨(some 6), .fa 0 (.t 5), none, [1]⟩,
  ⟨(some 7), .load false 1 (.t 6), none, [2]⟩,
  ⟨(some 8), .len (.t 7), none, [3]⟩,
  ⟨(some 9), .mksl 5 1 1 [(.int .u8 0)] (.t 8) (.t 8), none, [4, 4]⟩,
  ⟨(some 3), .mv (.t 9), none, [5, 0, 1, 2, 3, 4, 5]⟩])
(.seq (.reg false [⟨(some 10), .mv (.t 3), none, []⟩,
  ⟨(some 11), .mv (.t 0), none, []⟩,
  ⟨(some 12), .chk (.t 11), none, [1]⟩,
  ⟨(some 13), .fa 0 (.t 12), none, [2]⟩,
  ⟨(some 14), .load false 1 (.t 13), none, [3]⟩,
  ⟨(some 15), .cpy 1 (.t 10) (.t 14), none, [0, 4]⟩])
(.seq (.reg false [⟨(some 16), .mv (.t 3), none, []⟩,
  ⟨(some 2), .mv (.t 16), none, [0, 0]⟩])
.ret))))
theorem r_bits_Writer_Bytes : fnOf Tryz.prog n_bits_Writer_Bytes = some (c_bits_Writer_Bytes, [.t 2], 17, false) := by kernel_rfl

/-- (tallymark/thin.Param).Well -/
abbrev n_thin_Param_Well : FuncId := 64
def c_thin_Param_Well : C := (.seq (.reg false [⟨(some 2), .box 120 (.t 0), none, []⟩,
  ⟨(some 3), .box 117 (.t 1), none, []⟩,
  ⟨(some 4), .mv (.d (.bool false)), none, []⟩])
(.seq (.reg false [⟨(some 6), .fa 0 (.t 3), none, []⟩,
  ⟨(some 7), .load false 1 (.t 6), none, [0]⟩,
  ⟨(some 8), .bin .geq (.t 7) (.d (.int .i64 0)), none, [1]⟩,
  ⟨(some 9), .mv (.t 8), none, [2]⟩,
  ⟨(some 10), .fa 0 (.t 3), some (9, true), [3]⟩,
  ⟨(some 11), .load false 1 (.t 10), some (9, true), [4, 3]⟩,
  ⟨(some 12), .fa 0 (.t 2), some (9, true), [3]⟩,
  ⟨(some 13), .load false 1 (.t 12), some (9, true), [6, 3]⟩,
  ⟨(some 14), .bin .leq (.t 11) (.t 13), some (9, true), [5, 7, 3]⟩,
  ⟨(some 15), .pick (.t 9) (.t 14) (.d (.bool false)), none, [3, 8]⟩,
  ⟨(some 16), .mv (.t 15), none, [9, 3]⟩,
  ⟨(some 17), .fa 1 (.t 3), some (16, true), [10]⟩,
  ⟨(some 18), .load false 1 (.t 17), some (16, true), [11, 10]⟩,
  ⟨(some 19), .bin .geq (.t 18) (.d (.int .i64 0)), some (16, true), [12, 10]⟩,
  ⟨(some 20), .pick (.t 16) (.t 19) (.d (.bool false)), none, [10, 13]⟩,
  ⟨(some 21), .mv (.t 20), none, [14, 10]⟩,
  ⟨(some 22), .fa 1 (.t 3), some (21, true), [15]⟩,
  ⟨(some 23), .load false 1 (.t 22), some (21, true), [16, 15]⟩,
  ⟨(some 24), .fa 1 (.t 2), some (21, true), [15]⟩,
  ⟨(some 25), .load false 1 (.t 24), some (21, true), [18, 15]⟩,
  ⟨(some 26), .bin .leq (.t 23) (.t 25), some (21, true), [17, 19, 15]⟩,
  ⟨(some 27), .pick (.t 21) (.t 26) (.d (.bool false)), none, [15, 20]⟩,
  ⟨(some 5), .mv (.t 27), none, [21, 15, 0, 1, 2, 3, 4, 5, 6, 7, 8, 9, 10, 11, 12, 13, 14, 15, 16, 17, 18, 19, 20, 21]⟩])
(.seq (.reg false [⟨(some 28), .load true 2 (.t 2), none, []⟩,
  ⟨(some 29), .call 85 [(.t 28)], none, [0]⟩,
  ⟨(some 30), .bin .eql (.t 29) (.d (.int .i64 0)), none, [1]⟩,
  ⟨(some 31), .mv (.t 30), none, [2, 1]⟩,
  ⟨(some 32), .mv (.t 5), some (31, true), [3]⟩,
  ⟨(some 33), .pick (.t 31) (.t 32) (.d (.bool false)), none, [3, 4]⟩,
  ⟨(some 34), .mv (.t 33), none, [5, 3]⟩,
  ⟨(some 35), .fa 2 (.t 3), some (34, true), [6]⟩,
  ⟨(some 36), .load false 1 (.t 35), some (34, true), [7, 6]⟩,
  ⟨(some 37), .un .not (.t 36), some (34, true), [8, 6]⟩,
  ⟨(some 38), .mv (.t 37), some (34, true), [9, 6, 6]⟩,
  ⟨(some 39), .fa 1 (.t 3), some (38, false), [10]⟩,
  ⟨(some 40), .load false 1 (.t 39), some (38, false), [11, 10]⟩,
  ⟨(some 41), .fa 1 (.t 2), some (38, false), [10]⟩,
  ⟨(some 42), .load false 1 (.t 41), some (38, false), [13, 10]⟩,
  ⟨(some 43), .bin .eql (.t 40) (.t 42), some (38, false), [12, 14, 10]⟩,
  ⟨(some 44), .pick (.t 38) (.d (.bool true)) (.t 43), some (34, true), [10, 15, 6]⟩,
  ⟨(some 45), .pick (.t 34) (.t 44) (.d (.bool false)), none, [6, 16]⟩,
  ⟨(some 4), .mv (.t 45), none, [17, 10, 0, 1, 2, 3, 4, 5, 6, 7, 8, 9, 10, 11, 12, 13, 14, 15, 16, 17]⟩])
.ret)))
theorem r_thin_Param_Well : fnOf Tryz.prog n_thin_Param_Well = some (c_thin_Param_Well, [.t 4], 46, false) := by kernel_rfl

/-- (tallymark/chain.Param).Top -/
abbrev n_chain_Param_Top : FuncId := 65
def c_chain_Param_Top : C := (.seq (.reg false [⟨(some 1), .box 129 (.t 0), none, []⟩,
  ⟨(some 2), .mv (.d (.int .i64 0)), none, []⟩])
(.seq (.seq (.reg false [⟨(some 3), .load true 3 (.t 1), none, []⟩,
  ⟨(some 4), .call 86 [(.t 3)], none, [0]⟩,
  ⟨(some 5), .bin .neq (.t 4) (.d (.int .i64 0)), none, [1]⟩])
(.cond (.t 5)
 (.seq (.reg false [⟨(some 2), .mv (.d (.int .i64 0)), none, []⟩])
 .ret)
 .skip))
(.seq (.reg false [⟨(some 6), .fa 2 (.t 1), none, []⟩,
  ⟨(some 7), .load false 1 (.t 6), none, [0]⟩,
  ⟨(some 8), .bin .shl (.d (.int .i64 1)) (.t 7), none, [1]⟩,
  ⟨(some 9), .bin .sub (.t 8) (.d (.int .i64 1)), none, [2]⟩,
  ⟨(some 2), .mv (.t 9), none, [3, 0, 1, 2, 3]⟩])
.ret)))
theorem r_chain_Param_Top : fnOf Tryz.prog n_chain_Param_Top = some (c_chain_Param_Top, [.t 2], 10, false) := by kernel_rfl

/-- (*tallymark/pack.Vector).Write -/
abbrev n_pack_Vector_Write : FuncId := 66
def c_pack_Vector_Write : C := (.seq (.reg false [⟨(some 7), .mv (.t 0), none, []⟩,
  ⟨(some 8), .chk (.t 7), none, [0]⟩,
  ⟨(some 9), .fa 1 (.t 8), none, [1]⟩,
  ⟨(some 10), .load false 1 (.t 9), none, [2]⟩,
  ⟨(some 11), .mv (.d (.int .i64 0)), none, []⟩])
(.block 0 (.loop (.seq (.reg false [⟨(some 12), .bin .lss (.t 11) (.t 10), none, []⟩])
(.seq (.cond (.t 12)
 .skip
 (.exit 0))
(.seq (.block 1 (.seq (.reg false [⟨(some 13), .mv (.t 11), none, []⟩,
  ⟨(some 4), .mv (.t 13), none, [0, 0]⟩])
(.seq (.reg false [⟨(some 15), .mv (.t 0), none, []⟩,
  ⟨(some 16), .mv (.t 4), none, []⟩,
  ⟨(some 17), .call 56 [(.t 15), (.t 16)], none, [0, 1]⟩,
  ⟨(some 14), .mv (.t 17), none, [2]⟩,
  ⟨(some 18), .ext (.t 14) 0, none, [3]⟩,
  ⟨(some 19), .ext (.t 14) 1, none, [3]⟩,
  ⟨(some 5), .mv (.t 18), none, [4, 2, 0, 1, 2, 3, 4]⟩,
  ⟨(some 6), .mv (.t 19), none, [5, 6, 0, 1, 2, 3, 4, 5, 6]⟩])
(.reg false [⟨(some 20), .mv (.t 1), none, []⟩,
  ⟨(some 21), .mv (.t 5), none, []⟩,
  ⟨(some 22), .mv (.t 0), none, []⟩,
  ⟨(some 23), .chk (.t 22), none, [2]⟩,
  ⟨(some 24), .fa 2 (.t 23), none, [3]⟩,
  ⟨(some 25), .load false 1 (.t 24), none, [4]⟩,
  ⟨(some 26), .call 57 [(.t 20), (.t 21), (.t 25)], none, [0, 1, 5]⟩]))))
(.reg false [⟨(some 27), .bin .add (.t 11) (.d (.int .i64 1)), none, []⟩,
  ⟨(some 11), .mv (.t 27), none, [0]⟩])))))))
theorem r_pack_Vector_Write : fnOf Tryz.prog n_pack_Vector_Write = some (c_pack_Vector_Write, [], 28, false) := by kernel_rfl

/-- (*tallymark/pack.Vector).Len -/
abbrev n_pack_Vector_Len : FuncId := 67
def c_pack_Vector_Len : C := (.seq (.reg false [⟨(some 2), .mv (.d (.int .i64 0)), none, []⟩])
(.seq (.reg false [⟨(some 3), .mv (.t 0), none, []⟩,
  ⟨(some 4), .chk (.t 3), none, [0]⟩,
  ⟨(some 5), .fa 1 (.t 4), none, [1]⟩,
  ⟨(some 6), .load false 1 (.t 5), none, [2]⟩,
  ⟨(some 2), .mv (.t 6), none, [3, 0, 1, 2, 3]⟩])
.ret))
theorem r_pack_Vector_Len : fnOf Tryz.prog n_pack_Vector_Len = some (c_pack_Vector_Len, [.t 2], 7, false) := by kernel_rfl

/-- (*tallymark/bits.Writer).Len -/
abbrev n_bits_Writer_Len : FuncId := 68
def c_bits_Writer_Len : C := (.seq (.reg false [⟨(some 2), .mv (.d (.int .i64 0)), none, []⟩])
(.seq (.reg false [⟨(some 3), .mv (.t 0), none, []⟩,
  ⟨(some 4), .chk (.t 3), none, [0]⟩,
  ⟨(some 5), .fa 1 (.t 4), none, [1]⟩,
  ⟨(some 6), .load false 1 (.t 5), none, [2]⟩,
  ⟨(some 2), .mv (.t 6), none, [3, 0, 1, 2, 3]⟩])
.ret))
theorem r_bits_Writer_Len : fnOf Tryz.prog n_bits_Writer_Len = some (c_bits_Writer_Len, [.t 2], 7, false) := by kernel_rfl

/-- (*tallymark/pack.Vector).Clone -/
abbrev n_pack_Vector_Clone : FuncId := 69
def c_pack_Vector_Clone : C := (.seq (.reg false [⟨(some 2), .mv (.d .nilp), none, []⟩])
(.seq (.reg true [⟨(some 3), .mv (.t 0), none, []⟩,
  ⟨(some 4), .chk (.t 3), none, [0]⟩,
  ⟨(some 5), .fa 0 (.t 4), none, [1]⟩,
  ⟨(some 6), .load false 1 (.t 5), none, [2]⟩,
  ⟨(some 7), .call 105 [(.t 6)], none, [3]⟩,
  ⟨(some 8), .mv (.t 0), none, []⟩,
  ⟨(some 9), .chk (.t 8), none, [5]⟩,
  ⟨(some 10), .fa 1 (.t 9), none, [6]⟩,
  ⟨(some 11), .load false 1 (.t 10), none, [7]⟩,
  ⟨(some 12), .mv (.t 0), none, []⟩,
  ⟨(some 13), .chk (.t 12), none, [9]⟩,
  ⟨(some 14), .fa 2 (.t 13), none, [10]⟩,
  ⟨(some 15), .load false 1 (.t 14), none, [11]⟩,
  ⟨(some 16), .build [.nilsl, (.int .i64 0), (.int .i64 0)] [(0, 1, (.t 7)), (1, 1, (.t 11)), (2, 1, (.t 15))], none, [4, 8, 12]⟩,
  ⟨(some 17), .box 169 (.t 16), none, [13]⟩,
  ⟨(some 2), .mv (.t 17), none, [14, 4, 0, 1, 2, 3, 4, 5, 6, 7, 8, 9, 10, 11, 12, 13, 14]⟩])
.ret))
theorem r_pack_Vector_Clone : fnOf Tryz.prog n_pack_Vector_Clone = some (c_pack_Vector_Clone, [.t 2], 18, false) := by kernel_rfl

/-- (*tallymark/pack.Vector).Same -/
abbrev n_pack_Vector_Same : FuncId := 70
def c_pack_Vector_Same : C := (.seq (.reg false [⟨(some 4), .mv (.d (.bool false)), none, []⟩])
(.seq (.reg true [⟨(some 5), .mv (.t 0), none, []⟩,
  ⟨(some 6), .chk (.t 5), none, [0]⟩,
  ⟨(some 7), .fa 1 (.t 6), none, [1]⟩,
  ⟨(some 8), .load false 1 (.t 7), none, [2]⟩,
  ⟨(some 9), .mv (.t 1), none, []⟩,
  ⟨(some 10), .chk (.t 9), none, [4]⟩,
  ⟨(some 11), .fa 1 (.t 10), none, [5]⟩,
  ⟨(some 12), .load false 1 (.t 11), none, [6]⟩,
  ⟨(some 13), .bin .eql (.t 8) (.t 12), none, [3, 7]⟩,
  ⟨(some 14), .mv (.t 13), none, [8]⟩,
  ⟨(some 15), .mv (.t 0), some (14, true), [9]⟩,
  ⟨(some 16), .chk (.t 15), some (14, true), [10, 9]⟩,
  ⟨(some 17), .fa 2 (.t 16), some (14, true), [11, 9]⟩,
  ⟨(some 18), .load false 1 (.t 17), some (14, true), [12, 9]⟩,
  ⟨(some 19), .mv (.t 1), some (14, true), [9]⟩,
  ⟨(some 20), .chk (.t 19), some (14, true), [14, 9]⟩,
  ⟨(some 21), .fa 2 (.t 20), some (14, true), [15, 9]⟩,
  ⟨(some 22), .load false 1 (.t 21), some (14, true), [16, 9]⟩,
  ⟨(some 23), .bin .eql (.t 18) (.t 22), some (14, true), [13, 17, 9]⟩,
  ⟨(some 24), .pick (.t 14) (.t 23) (.d (.bool false)), none, [9, 18]⟩,
  ⟨(some 25), .mv (.t 24), none, [19, 9]⟩,
  ⟨(some 26), .mv (.t 0), some (25, true), [20]⟩,
  ⟨(some 27), .chk (.t 26), some (25, true), [21, 20]⟩,
  ⟨(some 28), .fa 0 (.t 27), some (25, true), [22, 20]⟩,
  ⟨(some 29), .load false 1 (.t 28), some (25, true), [23, 20]⟩,
  ⟨(some 30), .mv (.t 1), some (25, true), [20]⟩,
  ⟨(some 31), .chk (.t 30), some (25, true), [25, 20]⟩,
  ⟨(some 32), .fa 0 (.t 31), some (25, true), [26, 20]⟩,
  ⟨(some 33), .load false 1 (.t 32), some (25, true), [27, 20]⟩,
  ⟨(some 34), .call 106 [(.t 29), (.t 33)], some (25, true), [24, 28, 20, 20]⟩,
  ⟨(some 35), .pick (.t 25) (.t 34) (.d (.bool false)), none, [20, 29]⟩,
  ⟨(some 4), .mv (.t 35), none, [30, 29, 0, 1, 2, 3, 4, 5, 6, 7, 8, 9, 10, 11, 12, 13, 14, 15, 16, 17, 18, 19, 20, 21, 22, 23, 24, 25, 26, 27, 28, 29, 30]⟩])
.ret))
theorem r_pack_Vector_Same : fnOf Tryz.prog n_pack_Vector_Same = some (c_pack_Vector_Same, [.t 4], 36, false) := by kernel_rfl

/-- (tallymark/reg.Param).Write -/
abbrev n_reg_Param_Write : FuncId := 71
def c_reg_Param_Write : C := (.seq (.reg false [⟨(some 3), .box 30 (.t 0), none, []⟩,
  ⟨(some 5), .box 36 (.t 2), none, []⟩,
  ⟨(some 6), .mv (.d (.int .i64 0)), none, []⟩])
(.seq (.seq (.reg false [⟨(some 10), .load true 3 (.t 3), none, []⟩,
  ⟨(some 11), .load true 3 (.t 5), none, []⟩,
  ⟨(some 12), .bsl 36 3 1 [(.int .i64 0), (.int .i64 0), (.bool false)] [(0, 3, (.t 11))], none, [1]⟩,
  ⟨(some 13), .call 47 [(.t 10), (.t 12)], none, [0, 2]⟩,
  ⟨(some 7), .mv (.t 13), none, [3, 3, 0, 1, 2, 3]⟩])
(.seq (.reg false [⟨(some 14), .mv (.t 7), none, []⟩,
  ⟨(some 15), .bin .neq (.t 14) (.d (.int .i64 0)), none, [0]⟩])
(.cond (.t 15)
 (.seq (.reg false [⟨(some 16), .mv (.t 7), none, []⟩,
   ⟨(some 6), .mv (.t 16), none, [0, 0]⟩])
 .ret)
 .skip)))
(.seq (.reg false [⟨(some 18), .load true 3 (.t 3), none, []⟩,
  ⟨(some 19), .call 87 [(.t 18)], none, [0]⟩,
  ⟨(some 17), .mv (.t 19), none, [1]⟩,
  ⟨(some 20), .ext (.t 17) 0, none, [2]⟩,
  ⟨(some 21), .ext (.t 17) 1, none, [2]⟩,
  ⟨(some 8), .mv (.t 20), none, [3, 1, 0, 1, 2, 3]⟩,
  ⟨(some 9), .mv (.t 21), none, [4, 5, 0, 1, 2, 3, 4, 5]⟩])
(.seq (.reg false [⟨(some 22), .mv (.t 1), none, []⟩,
  ⟨(some 23), .fa 0 (.t 5), none, []⟩,
  ⟨(some 24), .load false 1 (.t 23), none, [1]⟩,
  ⟨(some 25), .conv .u64 (.t 24), none, [2]⟩,
  ⟨(some 26), .mv (.t 8), none, []⟩,
  ⟨(some 27), .call 57 [(.t 22), (.t 25), (.t 26)], none, [0, 3, 4]⟩])
(.seq (.reg false [⟨(some 28), .mv (.t 1), none, []⟩,
  ⟨(some 29), .fa 1 (.t 5), none, []⟩,
  ⟨(some 30), .load false 1 (.t 29), none, [1]⟩,
  ⟨(some 31), .conv .u64 (.t 30), none, [2]⟩,
  ⟨(some 32), .mv (.t 9), none, []⟩,
  ⟨(some 33), .call 57 [(.t 28), (.t 31), (.t 32)], none, [0, 3, 4]⟩])
(.seq (.reg false [⟨(some 34), .mv (.t 1), none, []⟩,
  ⟨(some 35), .fa 2 (.t 5), none, []⟩,
  ⟨(some 36), .load false 1 (.t 35), none, [1]⟩,
  ⟨(some 37), .call 98 [(.t 34), (.t 36)], none, [0, 2]⟩])
(.seq (.reg false [⟨(some 6), .mv (.d (.int .i64 0)), none, []⟩])
.ret)))))))
theorem r_reg_Param_Write : fnOf Tryz.prog n_reg_Param_Write = some (c_reg_Param_Write, [.t 6], 38, false) := by kernel_rfl

/-- (*tallymark/bits.Reader).Num -/
abbrev n_bits_Reader_Num : FuncId := 72
def c_bits_Reader_Num : C := (.seq (.reg false [⟨(some 4), .mv (.d (.int .u64 0)), none, []⟩,
  ⟨(some 5), .mv (.d (.int .i64 0)), none, [0]⟩])
(.seq (.block 0 (.seq (.reg false [⟨(some 8), .mv (.t 1), none, []⟩,
  ⟨(some 9), .call 96 [(.t 8)], none, [0]⟩,
  ⟨(some 10), .un .not (.t 9), none, [1]⟩,
  ⟨(some 7), .mv (.t 10), none, [2, 1]⟩])
(.cond (.t 7)
 (.seq (.reg false [⟨(some 4), .mv (.d (.int .u64 0)), none, []⟩,
   ⟨(some 5), .mv (.d (.int .i64 2)), none, [0, 0]⟩])
 .ret)
 (.seq (.reg false [⟨(some 12), .mv (.t 1), none, []⟩,
   ⟨(some 13), .mv (.t 0), none, []⟩,
   ⟨(some 14), .call 99 [(.t 13)], none, [1]⟩,
   ⟨(some 15), .bin .gtr (.t 12) (.t 14), none, [0, 2]⟩,
   ⟨(some 11), .mv (.t 15), none, [3, 2]⟩])
 (.cond (.t 11)
  (.seq (.reg false [⟨(some 4), .mv (.d (.int .u64 0)), none, []⟩,
    ⟨(some 5), .mv (.d (.int .i64 5)), none, [0, 0]⟩])
  .ret)
  .skip)))))
(.seq (.reg false [⟨(some 6), .mv (.d (.int .u64 0)), none, []⟩])
(.seq (.seq (.reg false [⟨(some 16), .mv (.t 1), none, []⟩,
  ⟨(some 17), .mv (.d (.int .i64 0)), none, []⟩])
(.block 1 (.loop (.seq (.reg false [⟨(some 18), .bin .lss (.t 17) (.t 16), none, []⟩])
(.seq (.cond (.t 18)
 .skip
 (.exit 1))
(.seq (.block 2 (.reg false [⟨(some 19), .mv (.t 6), none, []⟩,
  ⟨(some 20), .bin .shl (.t 19) (.d (.int .u64 1)), none, [0]⟩,
  ⟨(some 21), .mv (.t 0), none, []⟩,
  ⟨(some 22), .call 107 [(.t 21)], none, [2]⟩,
  ⟨(some 23), .bin .or (.t 20) (.t 22), none, [1, 3]⟩,
  ⟨(some 6), .mv (.t 23), none, [4, 3, 0, 1, 2, 3, 4]⟩]))
(.reg false [⟨(some 24), .bin .add (.t 17) (.d (.int .i64 1)), none, []⟩,
  ⟨(some 17), .mv (.t 24), none, [0]⟩])))))))
(.seq (.reg false [⟨(some 25), .mv (.t 6), none, []⟩,
  ⟨(some 4), .mv (.t 25), none, [0, 0]⟩,
  ⟨(some 5), .mv (.d (.int .i64 0)), none, [1, 0, 1]⟩])
.ret)))))
theorem r_bits_Reader_Num : fnOf Tryz.prog n_bits_Reader_Num = some (c_bits_Reader_Num, [.t 4, .t 5], 26, false) := by kernel_rfl

/-- (*tallymark/pack.Vector).Set -/
abbrev n_pack_Vector_Set : FuncId := 73
def c_pack_Vector_Set : C := (.seq (.reg false [⟨(some 6), .mv (.d (.int .i64 0)), none, []⟩])
(.seq (.block 0 (.seq (.reg false [⟨(some 11), .mv (.t 1), none, []⟩,
  ⟨(some 12), .bin .lss (.t 11) (.d (.int .i64 0)), none, [0]⟩,
  ⟨(some 13), .mv (.t 12), none, [1]⟩,
  ⟨(some 14), .mv (.t 1), some (13, false), [2]⟩,
  ⟨(some 15), .mv (.t 0), some (13, false), [2]⟩,
  ⟨(some 16), .chk (.t 15), some (13, false), [4, 2]⟩,
  ⟨(some 17), .fa 1 (.t 16), some (13, false), [5, 2]⟩,
  ⟨(some 18), .load false 1 (.t 17), some (13, false), [6, 2]⟩,
  ⟨(some 19), .bin .geq (.t 14) (.t 18), some (13, false), [3, 7, 2]⟩,
  ⟨(some 20), .pick (.t 13) (.d (.bool true)) (.t 19), none, [2, 8]⟩,
  ⟨(some 10), .mv (.t 20), none, [9, 2]⟩])
(.cond (.t 10)
 (.seq (.reg false [⟨(some 6), .mv (.d (.int .i64 1)), none, []⟩])
 .ret)
 (.seq (.reg false [⟨(some 22), .mv (.t 2), none, []⟩,
   ⟨(some 23), .mv (.t 0), none, []⟩,
   ⟨(some 24), .call 95 [(.t 23)], none, [1]⟩,
   ⟨(some 25), .bin .gtr (.t 22) (.t 24), none, [0, 2]⟩,
   ⟨(some 21), .mv (.t 25), none, [3, 2]⟩])
 (.cond (.t 21)
  (.seq (.reg false [⟨(some 6), .mv (.d (.int .i64 2)), none, []⟩])
  .ret)
  .skip)))))
(.seq (.reg false [⟨(some 27), .mv (.t 0), none, []⟩,
  ⟨(some 28), .mv (.t 1), none, []⟩,
  ⟨(some 29), .call 94 [(.t 27), (.t 28)], none, [0, 1]⟩,
  ⟨(some 26), .mv (.t 29), none, [2]⟩,
  ⟨(some 30), .ext (.t 26) 0, none, [3]⟩,
  ⟨(some 31), .ext (.t 26) 1, none, [3]⟩,
  ⟨(some 7), .mv (.t 30), none, [4, 2, 0, 1, 2, 3, 4]⟩,
  ⟨(some 8), .mv (.t 31), none, [5, 6, 0, 1, 2, 3, 4, 5, 6]⟩])
(.seq (.reg true [⟨(some 32), .mv (.t 0), none, []⟩,
  ⟨(some 33), .chk (.t 32), none, [0]⟩,
  ⟨(some 34), .fa 0 (.t 33), none, [1]⟩,
  ⟨(some 35), .load false 1 (.t 34), none, [2]⟩,
  ⟨(some 36), .mv (.t 7), none, []⟩,
  ⟨(some 37), .mv (.t 0), none, []⟩,
  ⟨(some 38), .chk (.t 37), none, [5]⟩,
  ⟨(some 39), .fa 0 (.t 38), none, [6]⟩,
  ⟨(some 40), .load false 1 (.t 39), none, [7]⟩,
  ⟨(some 41), .mv (.t 7), none, []⟩,
  ⟨(some 42), .ix 1 (.t 40) (.t 41), none, [8, 9]⟩,
  ⟨(some 43), .load false 1 (.t 42), none, [10]⟩,
  ⟨(some 44), .mv (.t 0), none, []⟩,
  ⟨(some 45), .call 95 [(.t 44)], none, [12]⟩,
  ⟨(some 46), .mv (.t 8), none, []⟩,
  ⟨(some 47), .bin .shl (.t 45) (.t 46), none, [13, 14]⟩,
  ⟨(some 48), .bin .andNot (.t 43) (.t 47), none, [11, 15]⟩,
  ⟨(some 49), .mv (.t 2), none, []⟩,
  ⟨(some 50), .mv (.t 8), none, []⟩,
  ⟨(some 51), .bin .shl (.t 49) (.t 50), none, [17, 18]⟩,
  ⟨(some 52), .bin .or (.t 48) (.t 51), none, [16, 19]⟩,
  ⟨(some 53), .ix 1 (.t 35) (.t 36), none, [3, 4, 0, 1, 2, 3, 4, 5, 6, 7, 8, 9, 10, 11, 12, 13, 14, 15, 16, 17, 18, 19, 20]⟩,
  ⟨none, .store 1 (.t 53) (.t 52), none, [21, 20, 13, 0, 1, 2, 3, 4, 5, 6, 7, 8, 9, 10, 11, 12, 13, 14, 15, 16, 17, 18, 19, 20]⟩])
(.seq (.seq (.reg false [⟨(some 54), .mv (.t 8), none, []⟩,
  ⟨(some 55), .mv (.t 0), none, []⟩,
  ⟨(some 56), .chk (.t 55), none, [1]⟩,
  ⟨(some 57), .fa 2 (.t 56), none, [2]⟩,
  ⟨(some 58), .load false 1 (.t 57), none, [3]⟩,
  ⟨(some 59), .bin .add (.t 54) (.t 58), none, [0, 4]⟩,
  ⟨(some 60), .bin .gtr (.t 59) (.d (.int .i64 64)), none, [5]⟩])
(.cond (.t 60)
 (.seq (.reg false [⟨(some 61), .mv (.t 8), none, []⟩,
   ⟨(some 62), .bin .sub (.d (.int .i64 64)) (.t 61), none, [0]⟩,
   ⟨(some 9), .mv (.t 62), none, [1, 0, 1]⟩])
 (.reg true [⟨(some 63), .mv (.t 0), none, []⟩,
   ⟨(some 64), .chk (.t 63), none, [0]⟩,
   ⟨(some 65), .fa 0 (.t 64), none, [1]⟩,
   ⟨(some 66), .load false 1 (.t 65), none, [2]⟩,
   ⟨(some 67), .mv (.t 7), none, []⟩,
   ⟨(some 68), .bin .add (.t 67) (.d (.int .i64 1)), none, [4]⟩,
   ⟨(some 69), .mv (.t 0), none, []⟩,
   ⟨(some 70), .chk (.t 69), none, [6]⟩,
   ⟨(some 71), .fa 0 (.t 70), none, [7]⟩,
   ⟨(some 72), .load false 1 (.t 71), none, [8]⟩,
   ⟨(some 73), .mv (.t 7), none, []⟩,
   ⟨(some 74), .bin .add (.t 73) (.d (.int .i64 1)), none, [10]⟩,
   ⟨(some 75), .ix 1 (.t 72) (.t 74), none, [9, 11]⟩,
   ⟨(some 76), .load false 1 (.t 75), none, [12]⟩,
   ⟨(some 77), .mv (.t 0), none, []⟩,
   ⟨(some 78), .call 95 [(.t 77)], none, [14]⟩,
   ⟨(some 79), .mv (.t 9), none, []⟩,
   ⟨(some 80), .bin .shr (.t 78) (.t 79), none, [15, 16]⟩,
   ⟨(some 81), .bin .andNot (.t 76) (.t 80), none, [13, 17]⟩,
   ⟨(some 82), .mv (.t 2), none, []⟩,
   ⟨(some 83), .mv (.t 9), none, []⟩,
   ⟨(some 84), .bin .shr (.t 82) (.t 83), none, [19, 20]⟩,
   ⟨(some 85), .bin .or (.t 81) (.t 84), none, [18, 21]⟩,
   ⟨(some 86), .ix 1 (.t 66) (.t 68), none, [3, 5, 0, 1, 2, 3, 4, 5, 6, 7, 8, 9, 10, 11, 12, 13, 14, 15, 16, 17, 18, 19, 20, 21, 22]⟩,
   ⟨none, .store 1 (.t 86) (.t 85), none, [23, 22, 15, 0, 1, 2, 3, 4, 5, 6, 7, 8, 9, 10, 11, 12, 13, 14, 15, 16, 17, 18, 19, 20, 21, 22]⟩]))
 .skip))
(.seq (.reg false [⟨(some 6), .mv (.d (.int .i64 0)), none, []⟩])
.ret))))))
theorem r_pack_Vector_Set : fnOf Tryz.prog n_pack_Vector_Set = some (c_pack_Vector_Set, [.t 6], 87, false) := by kernel_rfl

/-- (tallymark/thin.Param).Check -/
abbrev n_thin_Param_Check : FuncId := 85
def c_thin_Param_Check : C := (.seq (.reg false [⟨(some 1), .box 120 (.t 0), none, []⟩,
  ⟨(some 2), .mv (.d (.int .i64 0)), none, []⟩])
(.seq (.seq (.reg false [⟨(some 3), .fa 0 (.t 1), none, []⟩,
  ⟨(some 4), .load false 1 (.t 3), none, [0]⟩,
  ⟨(some 5), .bin .lss (.t 4) (.d (.int .i64 1)), none, [1]⟩,
  ⟨(some 6), .mv (.t 5), none, [2]⟩,
  ⟨(some 7), .fa 0 (.t 1), some (6, false), [3]⟩,
  ⟨(some 8), .load false 1 (.t 7), some (6, false), [4, 3]⟩,
  ⟨(some 9), .bin .gtr (.t 8) (.d (.int .i64 1023)), some (6, false), [5, 3]⟩,
  ⟨(some 10), .pick (.t 6) (.d (.bool true)) (.t 9), none, [3, 6]⟩,
  ⟨(some 11), .mv (.t 10), none, [7, 3]⟩,
  ⟨(some 12), .fa 1 (.t 1), some (11, false), [8]⟩,
  ⟨(some 13), .load false 1 (.t 12), some (11, false), [9, 8]⟩,
  ⟨(some 14), .bin .lss (.t 13) (.d (.int .i64 0)), some (11, false), [10, 8]⟩,
  ⟨(some 15), .pick (.t 11) (.d (.bool true)) (.t 14), none, [8, 11]⟩,
  ⟨(some 16), .mv (.t 15), none, [12, 8]⟩,
  ⟨(some 17), .fa 1 (.t 1), some (16, false), [13]⟩,
  ⟨(some 18), .load false 1 (.t 17), some (16, false), [14, 13]⟩,
  ⟨(some 19), .bin .gtr (.t 18) (.d (.int .i64 20)), some (16, false), [15, 13]⟩,
  ⟨(some 20), .pick (.t 16) (.d (.bool true)) (.t 19), none, [13, 16]⟩])
(.cond (.t 20)
 (.seq (.reg false [⟨(some 2), .mv (.d (.int .i64 10)), none, []⟩])
 .ret)
 .skip))
(.seq (.reg false [⟨(some 2), .mv (.d (.int .i64 0)), none, []⟩])
.ret)))
theorem r_thin_Param_Check : fnOf Tryz.prog n_thin_Param_Check = some (c_thin_Param_Check, [.t 2], 21, false) := by kernel_rfl

/-- (tallymark/chain.Param).Check -/
abbrev n_chain_Param_Check : FuncId := 86
def c_chain_Param_Check : C := (.seq (.reg false [⟨(some 1), .box 129 (.t 0), none, []⟩,
  ⟨(some 2), .mv (.d (.int .i64 0)), none, []⟩])
(.seq (.reg false [⟨(some 4), .load true 3 (.t 1), none, []⟩,
  ⟨(some 5), .call 91 [(.t 4)], none, [0]⟩,
  ⟨(some 3), .mv (.t 5), none, [1, 1, 0, 1]⟩])
(.seq (.seq (.reg false [⟨(some 6), .mv (.t 3), none, []⟩,
  ⟨(some 7), .inl false (.t 6), none, [0]⟩,
  ⟨(some 8), .mv (.t 7), none, [1]⟩,
  ⟨(some 9), .mv (.t 3), some (8, false), [2]⟩,
  ⟨(some 10), .inv (.t 9) "tallymark/chain.good" [], some (8, false), [3, 2, 2]⟩,
  ⟨(some 11), .un .not (.t 10), some (8, false), [4, 2]⟩,
  ⟨(some 12), .pick (.t 8) (.d (.bool true)) (.t 11), none, [2, 5]⟩,
  ⟨(some 13), .mv (.t 12), none, [6, 4]⟩,
  ⟨(some 14), .fa 2 (.t 1), some (13, false), [7]⟩,
  ⟨(some 15), .load false 1 (.t 14), some (13, false), [8, 7]⟩,
  ⟨(some 16), .bin .lss (.t 15) (.d (.int .i64 1)), some (13, false), [9, 7]⟩,
  ⟨(some 17), .pick (.t 13) (.d (.bool true)) (.t 16), none, [7, 10]⟩,
  ⟨(some 18), .mv (.t 17), none, [11, 7]⟩,
  ⟨(some 19), .fa 2 (.t 1), some (18, false), [12]⟩,
  ⟨(some 20), .load false 1 (.t 19), some (18, false), [13, 12]⟩,
  ⟨(some 21), .bin .gtr (.t 20) (.d (.int .i64 10)), some (18, false), [14, 12]⟩,
  ⟨(some 22), .pick (.t 18) (.d (.bool true)) (.t 21), none, [12, 15]⟩])
(.cond (.t 22)
 (.seq (.reg false [⟨(some 2), .mv (.d (.int .i64 10)), none, []⟩])
 .ret)
 .skip))
(.seq (.seq (.reg true [⟨(some 23), .fa 0 (.t 1), none, []⟩,
  ⟨(some 24), .load false 1 (.t 23), none, [0]⟩,
  ⟨(some 25), .bin .eql (.t 24) (.d (.int .i64 1)), none, [1]⟩,
  ⟨(some 26), .mv (.t 25), none, [2]⟩,
  ⟨(some 27), .fa 1 (.t 1), some (26, true), [3]⟩,
  ⟨(some 28), .load false 1 (.t 27), some (26, true), [4, 3]⟩,
  ⟨(some 29), .bin .add (.t 28) (.d (.int .i64 1)), some (26, true), [5, 3]⟩,
  ⟨(some 30), .conv .u64 (.t 29), some (26, true), [6, 3]⟩,
  ⟨(some 31), .call 116 [(.t 30)], some (26, true), [7, 3, 3]⟩,
  ⟨(some 32), .fa 2 (.t 1), some (26, true), [3]⟩,
  ⟨(some 33), .load false 1 (.t 32), some (26, true), [9, 3]⟩,
  ⟨(some 34), .bin .shl (.d (.int .i64 1)) (.t 33), some (26, true), [10, 3]⟩,
  ⟨(some 35), .bin .sub (.t 34) (.d (.int .i64 1)), some (26, true), [11, 3]⟩,
  ⟨(some 36), .bin .mul (.t 31) (.t 35), some (26, true), [8, 12, 3]⟩,
  ⟨(some 37), .bin .gtr (.t 36) (.d (.int .i64 8192)), some (26, true), [13, 3]⟩,
  ⟨(some 38), .pick (.t 26) (.t 37) (.d (.bool false)), none, [3, 14]⟩])
(.cond (.t 38)
 (.seq (.reg false [⟨(some 2), .mv (.d (.int .i64 10)), none, []⟩])
 .ret)
 .skip))
(.seq (.reg false [⟨(some 2), .mv (.d (.int .i64 0)), none, []⟩])
.ret)))))
theorem r_chain_Param_Check : fnOf Tryz.prog n_chain_Param_Check = some (c_chain_Param_Check, [.t 2], 39, false) := by kernel_rfl

/-- (tallymark/reg.Param).widths -/
abbrev n_reg_Param_widths : FuncId := 87
def c_reg_Param_widths : C := (.seq (.reg false [⟨(some 1), .box 30 (.t 0), none, []⟩,
  ⟨(some 2), .mv (.d (.int .i64 0)), none, []⟩,
  ⟨(some 3), .mv (.d (.int .i64 0)), none, [1]⟩])
(.seq (.seq (.reg false [⟨(some 4), .fa 0 (.t 1), none, []⟩,
  ⟨(some 5), .load false 1 (.t 4), none, [0]⟩,
  ⟨(some 6), .bin .eql (.t 5) (.d (.int .i64 4)), none, [1]⟩])
(.cond (.t 6)
 (.seq (.reg true [⟨(some 7), .fa 1 (.t 1), none, []⟩,
   ⟨(some 8), .load false 1 (.t 7), none, [0]⟩,
   ⟨(some 9), .conv .u64 (.t 8), none, [1]⟩,
   ⟨(some 10), .call 116 [(.t 9)], none, [2]⟩,
   ⟨(some 11), .fa 2 (.t 1), none, []⟩,
   ⟨(some 12), .load false 1 (.t 11), none, [4]⟩,
   ⟨(some 13), .conv .u64 (.t 12), none, [5]⟩,
   ⟨(some 14), .call 116 [(.t 13)], none, [6, 3]⟩,
   ⟨(some 2), .mv (.t 10), none, [3, 7, 0, 1, 2, 3]⟩,
   ⟨(some 3), .mv (.t 14), none, [7, 8, 0, 1, 2, 3, 4, 5, 6, 7, 8]⟩])
 .ret)
 .skip))
(.seq (.reg false [⟨(some 15), .fa 2 (.t 1), none, []⟩,
  ⟨(some 16), .load false 1 (.t 15), none, [0]⟩,
  ⟨(some 2), .mv (.t 16), none, [1, 0, 1]⟩,
  ⟨(some 3), .mv (.d (.int .i64 0)), none, [2, 0, 1, 2]⟩])
.ret)))
theorem r_reg_Param_widths : fnOf Tryz.prog n_reg_Param_widths = some (c_reg_Param_widths, [.t 2, .t 3], 17, false) := by kernel_rfl

/-- (tallymark/thin.Param).wrong -/
abbrev n_thin_Param_wrong : FuncId := 88
def c_thin_Param_wrong : C := (.seq (.reg false [⟨(some 2), .box 120 (.t 0), none, []⟩,
  ⟨(some 4), .mv (.d (.int .i64 0)), none, []⟩])
(.seq (.seq (.reg false [⟨(some 8), .load true 2 (.t 2), none, []⟩,
  ⟨(some 9), .call 85 [(.t 8)], none, [0]⟩,
  ⟨(some 5), .mv (.t 9), none, [1, 1, 0, 1]⟩])
(.seq (.reg false [⟨(some 10), .mv (.t 5), none, []⟩,
  ⟨(some 11), .bin .neq (.t 10) (.d (.int .i64 0)), none, [0]⟩])
(.cond (.t 11)
 (.seq (.reg false [⟨(some 12), .mv (.t 5), none, []⟩,
   ⟨(some 4), .mv (.t 12), none, [0, 0]⟩])
 .ret)
 .skip)))
(.seq (.seq (.reg false [⟨(some 13), .mv (.t 1), none, []⟩,
  ⟨(some 14), .len (.t 13), none, [0]⟩,
  ⟨(some 15), .mv (.d (.int .i64 0)), none, []⟩])
(.block 0 (.loop (.seq (.reg false [⟨(some 16), .bin .lss (.t 15) (.t 14), none, []⟩])
(.seq (.cond (.t 16)
 .skip
 (.exit 0))
(.seq (.block 1 (.seq (.reg false [⟨(some 17), .ix 3 (.t 13) (.t 15), none, []⟩,
  ⟨(some 18), .load true 3 (.t 17), none, [0]⟩,
  ⟨(some 7), .new 117 [(.int .i64 0), (.int .i64 0), (.bool false)], none, []⟩,
  ⟨none, .store 3 (.t 7) (.t 18), none, [2, 1, 0, 1, 2]⟩])
(.seq (.reg false [⟨(some 19), .load true 2 (.t 2), none, []⟩,
  ⟨(some 20), .load true 3 (.t 7), none, []⟩,
  ⟨(some 21), .call 64 [(.t 19), (.t 20)], none, [0, 1]⟩,
  ⟨(some 22), .un .not (.t 21), none, [2]⟩])
(.cond (.t 22)
 (.seq (.reg false [⟨(some 4), .mv (.d (.int .i64 2)), none, []⟩])
 .ret)
 .skip))))
(.reg false [⟨(some 23), .bin .add (.t 15) (.d (.int .i64 1)), none, []⟩,
  ⟨(some 15), .mv (.t 23), none, [0]⟩])))))))
(.seq (.reg false [⟨(some 4), .mv (.d (.int .i64 0)), none, []⟩])
.ret))))
theorem r_thin_Param_wrong : fnOf Tryz.prog n_thin_Param_wrong = some (c_thin_Param_wrong, [.t 4], 24, false) := by kernel_rfl

/-- (tallymark/thin.Param).one -/
abbrev n_thin_Param_one : FuncId := 89
def c_thin_Param_one : C := (.seq (.reg false [⟨(some 3), .box 120 (.t 0), none, []⟩,
  ⟨(some 5), .box 117 (.t 2), none, []⟩,
  ⟨(some 6), .new 117 [(.int .i64 0), (.int .i64 0), (.bool false)], none, []⟩,
  ⟨(some 7), .mv (.d (.int .i64 0)), none, []⟩])
(.seq (.reg false [⟨(some 11), .mv (.t 1), none, []⟩,
  ⟨(some 12), .fa 1 (.t 5), none, []⟩,
  ⟨(some 13), .load false 1 (.t 12), none, [1]⟩,
  ⟨(some 14), .call 117 [(.t 11), (.t 13)], none, [0, 2]⟩,
  ⟨(some 10), .mv (.t 14), none, [3]⟩,
  ⟨(some 15), .ext (.t 10) 0, none, [4]⟩,
  ⟨(some 16), .ext (.t 10) 1, none, [4]⟩,
  ⟨(some 8), .mv (.t 15), none, [5, 3, 0, 1, 2, 3, 4, 5]⟩,
  ⟨(some 9), .mv (.t 16), none, [6, 7, 0, 1, 2, 3, 4, 5, 6, 7]⟩])
(.seq (.seq (.reg false [⟨(some 17), .mv (.t 8), none, []⟩,
  ⟨(some 18), .un .not (.t 17), none, [0]⟩])
(.cond (.t 18)
 (.seq (.reg false [⟨(some 19), .load true 3 (.t 5), none, []⟩,
   ⟨(some 20), .mv (.t 9), none, []⟩,
   ⟨none, .store 3 (.t 6) (.t 19), none, [0, 0]⟩,
   ⟨(some 7), .mv (.t 20), none, [1, 2, 0, 1, 2]⟩])
 .ret)
 .skip))
(.seq (.reg false [⟨(some 21), .fa 0 (.t 5), none, []⟩,
  ⟨(some 22), .load false 1 (.t 21), none, [0]⟩,
  ⟨(some 23), .bin .add (.t 22) (.d (.int .i64 1)), none, [1]⟩,
  ⟨(some 24), .fa 0 (.t 5), none, [0, 1, 2]⟩,
  ⟨none, .store 1 (.t 24) (.t 23), none, [3, 2, 0, 1, 2]⟩])
(.seq (.reg false [⟨(some 25), .load true 2 (.t 3), none, []⟩,
  ⟨(some 26), .mv (.t 1), none, []⟩,
  ⟨(some 27), .load true 3 (.t 5), none, []⟩,
  ⟨(some 28), .call 103 [(.t 25), (.t 26), (.t 27)], none, [0, 1, 2]⟩,
  ⟨(some 29), .ext (.t 28) 0, none, [3]⟩,
  ⟨(some 30), .ext (.t 28) 1, none, [3]⟩,
  ⟨none, .store 3 (.t 6) (.t 29), none, [4, 3, 0, 1, 2, 3, 4, 5]⟩,
  ⟨(some 7), .mv (.t 30), none, [5, 6, 0, 1, 2, 3, 4, 5, 6]⟩])
.ret)))))
theorem r_thin_Param_one : fnOf Tryz.prog n_thin_Param_one = some (c_thin_Param_one, [.cell 6 true 3, .t 7], 31, false) := by kernel_rfl

/-- (tallymark/chain.Param).at -/
abbrev n_chain_Param_at : FuncId := 90
def c_chain_Param_at : C := (.seq (.reg false [⟨(some 2), .box 129 (.t 0), none, []⟩,
  ⟨(some 4), .mv (.d (.int .i64 0)), none, []⟩])
(.seq (.seq (.reg false [⟨(some 8), .load true 3 (.t 2), none, []⟩,
  ⟨(some 9), .call 86 [(.t 8)], none, [0]⟩,
  ⟨(some 5), .mv (.t 9), none, [1, 1, 0, 1]⟩])
(.seq (.reg false [⟨(some 10), .mv (.t 5), none, []⟩,
  ⟨(some 11), .bin .neq (.t 10) (.d (.int .i64 0)), none, [0]⟩])
(.cond (.t 11)
 (.seq (.reg false [⟨(some 12), .mv (.t 5), none, []⟩,
   ⟨(some 4), .mv (.t 12), none, [0, 0]⟩])
 .ret)
 .skip)))
(.seq (.seq (.reg false [⟨(some 13), .mv (.t 1), none, []⟩,
  ⟨(some 14), .len (.t 13), none, [0]⟩,
  ⟨(some 15), .mv (.d (.int .i64 0)), none, []⟩])
(.block 0 (.loop (.seq (.reg false [⟨(some 16), .bin .lss (.t 15) (.t 14), none, []⟩])
(.seq (.cond (.t 16)
 .skip
 (.exit 0))
(.seq (.block 1 (.seq (.reg false [⟨(some 17), .ix 1 (.t 13) (.t 15), none, []⟩,
  ⟨(some 18), .load false 1 (.t 17), none, [0]⟩,
  ⟨(some 7), .mv (.t 18), none, [1, 0, 1]⟩])
(.seq (.reg false [⟨(some 19), .mv (.t 7), none, []⟩,
  ⟨(some 20), .bin .lss (.t 19) (.d (.int .i64 0)), none, [0]⟩,
  ⟨(some 21), .mv (.t 20), none, [1]⟩,
  ⟨(some 22), .mv (.t 7), some (21, false), [2]⟩,
  ⟨(some 23), .load true 3 (.t 2), some (21, false), [2]⟩,
  ⟨(some 24), .call 65 [(.t 23)], some (21, false), [4, 2, 2]⟩,
  ⟨(some 25), .bin .gtr (.t 22) (.t 24), some (21, false), [3, 5, 2]⟩,
  ⟨(some 26), .pick (.t 21) (.d (.bool true)) (.t 25), none, [2, 6]⟩])
(.cond (.t 26)
 (.seq (.reg false [⟨(some 4), .mv (.d (.int .i64 2)), none, []⟩])
 .ret)
 .skip))))
(.reg false [⟨(some 27), .bin .add (.t 15) (.d (.int .i64 1)), none, []⟩,
  ⟨(some 15), .mv (.t 27), none, [0]⟩])))))))
(.seq (.reg false [⟨(some 4), .mv (.d (.int .i64 0)), none, []⟩])
.ret))))
theorem r_chain_Param_at : fnOf Tryz.prog n_chain_Param_at = some (c_chain_Param_at, [.t 4], 28, false) := by kernel_rfl

/-- (tallymark/chain.Param).kind -/
abbrev n_chain_Param_kind : FuncId := 91
def c_chain_Param_kind : C := (.seq (.reg false [⟨(some 1), .box 129 (.t 0), none, []⟩,
  ⟨(some 2), .mv (.d .nilifc), none, []⟩])
(.seq (.seq (.reg false [⟨(some 3), .fa 0 (.t 1), none, []⟩,
  ⟨(some 4), .load false 1 (.t 3), none, [0]⟩])
(.block 0 (.seq (.reg false [⟨(some 6), .bin .eql (.t 4) (.d (.int .i64 1)), none, []⟩,
  ⟨(some 5), .mv (.t 6), none, [0]⟩])
(.cond (.t 5)
 (.seq (.reg false [⟨(some 7), .fa 1 (.t 1), none, []⟩,
   ⟨(some 8), .load false 1 (.t 7), none, [0]⟩,
   ⟨(some 9), .ifc 206 (.t 8), none, [1]⟩,
   ⟨(some 2), .mv (.t 9), none, [2, 0, 1, 2]⟩])
 .ret)
 (.seq (.reg false [⟨(some 11), .bin .eql (.t 4) (.d (.int .i64 2)), none, []⟩,
   ⟨(some 10), .mv (.t 11), none, [0]⟩])
 (.cond (.t 10)
  (.seq (.reg false [⟨(some 12), .fa 1 (.t 1), none, []⟩,
    ⟨(some 13), .load false 1 (.t 12), none, [0]⟩,
    ⟨(some 14), .ifc 207 (.t 13), none, [1]⟩,
    ⟨(some 2), .mv (.t 14), none, [2, 0, 1, 2]⟩])
  .ret)
  (.seq (.reg false [⟨(some 16), .bin .eql (.t 4) (.d (.int .i64 3)), none, []⟩,
    ⟨(some 15), .mv (.t 16), none, [0]⟩])
  (.cond (.t 15)
   (.seq (.reg false [⟨(some 17), .fa 1 (.t 1), none, []⟩,
     ⟨(some 18), .load false 1 (.t 17), none, [0]⟩,
     ⟨(some 19), .ifc 208 (.t 18), none, [1]⟩,
     ⟨(some 2), .mv (.t 19), none, [2, 0, 1, 2]⟩])
   .ret)
   .skip))))))))
(.seq (.reg false [⟨(some 2), .mv (.d .nilifc), none, []⟩])
.ret)))
theorem r_chain_Param_kind : fnOf Tryz.prog n_chain_Param_kind = some (c_chain_Param_kind, [.t 2], 20, false) := by kernel_rfl

/-- (tallymark/chain.Param).on -/
abbrev n_chain_Param_on : FuncId := 92
def c_chain_Param_on : C := (.seq (.reg false [⟨(some 3), .box 129 (.t 0), none, []⟩,
  ⟨(some 4), .box 126 (.t 1), none, []⟩,
  ⟨(some 6), .new 126 [(.int .i64 0), (.bool false)], none, []⟩,
  ⟨(some 7), .mv (.d (.int .i64 0)), none, []⟩])
(.seq (.seq (.reg true [⟨(some 10), .fa 0 (.t 4), none, []⟩,
  ⟨(some 11), .load false 1 (.t 10), none, [0]⟩,
  ⟨(some 12), .load true 3 (.t 3), none, []⟩,
  ⟨(some 13), .call 65 [(.t 12)], none, [2]⟩,
  ⟨(some 14), .bin .eql (.t 11) (.t 13), none, [1, 3]⟩])
(.cond (.t 14)
 (.seq (.reg false [⟨(some 15), .fa 1 (.t 4), none, []⟩,
   ⟨none, .store 1 (.t 15) (.d (.bool true)), none, [0]⟩])
 (.seq (.reg false [⟨(some 16), .load true 2 (.t 4), none, []⟩,
   ⟨none, .store 2 (.t 6) (.t 16), none, [0, 0]⟩,
   ⟨(some 7), .mv (.d (.int .i64 0)), none, [1, 0, 1]⟩])
 .ret))
 .skip))
(.seq (.reg false [⟨(some 18), .mv (.t 2), none, []⟩,
  ⟨(some 19), .fa 0 (.t 4), none, []⟩,
  ⟨(some 20), .load false 1 (.t 19), none, [1]⟩,
  ⟨(some 21), .callv (.t 18) [(.t 20)], none, [0, 2]⟩,
  ⟨(some 17), .mv (.t 21), none, [3]⟩,
  ⟨(some 22), .ext (.t 17) 0, none, [4]⟩,
  ⟨(some 23), .ext (.t 17) 1, none, [4]⟩,
  ⟨(some 8), .mv (.t 22), none, [5, 3, 0, 1, 2, 3, 4, 5]⟩,
  ⟨(some 9), .mv (.t 23), none, [6, 7, 0, 1, 2, 3, 4, 5, 6, 7]⟩])
(.seq (.seq (.reg false [⟨(some 24), .mv (.t 8), none, []⟩])
(.cond (.t 24)
 (.reg false [⟨(some 25), .fa 0 (.t 4), none, []⟩,
   ⟨(some 26), .load false 1 (.t 25), none, [0]⟩,
   ⟨(some 27), .bin .add (.t 26) (.d (.int .i64 1)), none, [1]⟩,
   ⟨(some 28), .fa 0 (.t 4), none, [0, 1, 2]⟩,
   ⟨none, .store 1 (.t 28) (.t 27), none, [3, 2, 0, 1, 2]⟩])
 .skip))
(.seq (.reg false [⟨(some 29), .load true 2 (.t 4), none, []⟩,
  ⟨(some 30), .mv (.t 9), none, []⟩,
  ⟨none, .store 2 (.t 6) (.t 29), none, [0, 0]⟩,
  ⟨(some 7), .mv (.t 30), none, [1, 2, 0, 1, 2]⟩])
.ret)))))
theorem r_chain_Param_on : fnOf Tryz.prog n_chain_Param_on = some (c_chain_Param_on, [.cell 6 true 2, .t 7], 31, false) := by kernel_rfl

/-- (tallymark/chain.Param).Add$1 -/
abbrev n_chain_Param_Add_1 : FuncId := 93
def c_chain_Param_Add_1 : C := (.seq (.reg false [⟨(some 4), .mv (.d (.bool false)), none, []⟩,
  ⟨(some 5), .mv (.d (.int .i64 0)), none, [0]⟩])
(.seq (.reg false [⟨(some 6), .load false 1 (.t 1), none, []⟩,
  ⟨(some 7), .load false 1 (.t 2), none, []⟩,
  ⟨(some 8), .mv (.t 0), none, []⟩,
  ⟨(some 9), .inv (.t 6) "tallymark/chain.step" [(.t 7), (.t 8)], none, [0, 1, 2]⟩,
  ⟨(some 10), .ext (.t 9) 0, none, [3]⟩,
  ⟨(some 11), .ext (.t 9) 1, none, [3]⟩,
  ⟨(some 4), .mv (.t 10), none, [4, 3, 0, 1, 2, 3, 4, 5]⟩,
  ⟨(some 5), .mv (.t 11), none, [5, 6, 0, 1, 2, 3, 4, 5, 6]⟩])
.ret))
theorem r_chain_Param_Add_1 : fnOf Tryz.prog n_chain_Param_Add_1 = some (c_chain_Param_Add_1, [.t 4, .t 5], 12, false) := by kernel_rfl

/-- (*tallymark/pack.Vector).place -/
abbrev n_pack_Vector_place : FuncId := 94
def c_pack_Vector_place : C := (.seq (.reg false [⟨(some 4), .mv (.d (.int .i64 0)), none, []⟩,
  ⟨(some 5), .mv (.d (.int .i64 0)), none, [0]⟩])
(.seq (.reg true [⟨(some 6), .mv (.t 1), none, []⟩,
  ⟨(some 7), .mv (.t 0), none, []⟩,
  ⟨(some 8), .chk (.t 7), none, [1]⟩,
  ⟨(some 9), .fa 2 (.t 8), none, [2]⟩,
  ⟨(some 10), .load false 1 (.t 9), none, [3]⟩,
  ⟨(some 11), .bin .mul (.t 6) (.t 10), none, [0, 4]⟩,
  ⟨(some 12), .bin .quo (.t 11) (.d (.int .i64 64)), none, [5]⟩,
  ⟨(some 13), .mv (.t 1), none, []⟩,
  ⟨(some 14), .mv (.t 0), none, []⟩,
  ⟨(some 15), .chk (.t 14), none, [8]⟩,
  ⟨(some 16), .fa 2 (.t 15), none, [9]⟩,
  ⟨(some 17), .load false 1 (.t 16), none, [10]⟩,
  ⟨(some 18), .bin .mul (.t 13) (.t 17), none, [7, 11]⟩,
  ⟨(some 19), .bin .rem (.t 18) (.d (.int .i64 64)), none, [12]⟩,
  ⟨(some 4), .mv (.t 12), none, [6, 0, 1, 2, 3, 4, 5, 6]⟩,
  ⟨(some 5), .mv (.t 19), none, [13, 14, 0, 1, 2, 3, 4, 5, 6, 7, 8, 9, 10, 11, 12, 13, 14]⟩])
.ret))
theorem r_pack_Vector_place : fnOf Tryz.prog n_pack_Vector_place = some (c_pack_Vector_place, [.t 4, .t 5], 20, false) := by kernel_rfl

/-- (*tallymark/pack.Vector).mask -/
abbrev n_pack_Vector_mask : FuncId := 95
def c_pack_Vector_mask : C := (.seq (.reg false [⟨(some 2), .mv (.d (.int .u64 0)), none, []⟩])
(.seq (.reg false [⟨(some 3), .mv (.t 0), none, []⟩,
  ⟨(some 4), .chk (.t 3), none, [0]⟩,
  ⟨(some 5), .fa 2 (.t 4), none, [1]⟩,
  ⟨(some 6), .load false 1 (.t 5), none, [2]⟩,
  ⟨(some 7), .bin .shl (.d (.int .u64 1)) (.t 6), none, [3]⟩,
  ⟨(some 8), .bin .sub (.t 7) (.d (.int .u64 1)), none, [4]⟩,
  ⟨(some 2), .mv (.t 8), none, [5, 0, 1, 2, 3, 4, 5]⟩])
.ret))
theorem r_pack_Vector_mask : fnOf Tryz.prog n_pack_Vector_mask = some (c_pack_Vector_mask, [.t 2], 9, false) := by kernel_rfl

/-- tallymark/bits.good -/
abbrev n_bits_good : FuncId := 96
def c_bits_good : C := (.seq (.reg false [⟨(some 2), .mv (.d (.bool false)), none, []⟩])
(.seq (.reg false [⟨(some 3), .mv (.t 0), none, []⟩,
  ⟨(some 4), .bin .geq (.t 3) (.d (.int .i64 0)), none, [0]⟩,
  ⟨(some 5), .mv (.t 4), none, [1]⟩,
  ⟨(some 6), .mv (.t 0), some (5, true), [2]⟩,
  ⟨(some 7), .bin .leq (.t 6) (.d (.int .i64 64)), some (5, true), [3, 2]⟩,
  ⟨(some 8), .pick (.t 5) (.t 7) (.d (.bool false)), none, [2, 4]⟩,
  ⟨(some 2), .mv (.t 8), none, [5, 2, 0, 1, 2, 3, 4, 5]⟩])
.ret))
theorem r_bits_good : fnOf Tryz.prog n_bits_good = some (c_bits_good, [.t 2], 9, false) := by kernel_rfl

/-- tallymark/bits.fits -/
abbrev n_bits_fits : FuncId := 97
def c_bits_fits : C := (.seq (.reg false [⟨(some 4), .mv (.d (.bool false)), none, []⟩])
(.seq (.reg false [⟨(some 5), .mv (.t 1), none, []⟩,
  ⟨(some 6), .bin .eql (.t 5) (.d (.int .i64 64)), none, [0]⟩,
  ⟨(some 7), .mv (.t 6), none, [1]⟩,
  ⟨(some 8), .mv (.t 0), some (7, false), [2]⟩,
  ⟨(some 9), .mv (.t 1), some (7, false), [2]⟩,
  ⟨(some 10), .bin .shr (.t 8) (.t 9), some (7, false), [3, 4, 2]⟩,
  ⟨(some 11), .bin .eql (.t 10) (.d (.int .u64 0)), some (7, false), [5, 2]⟩,
  ⟨(some 12), .pick (.t 7) (.d (.bool true)) (.t 11), none, [2, 6]⟩,
  ⟨(some 4), .mv (.t 12), none, [7, 2, 0, 1, 2, 3, 4, 5, 6, 7]⟩])
.ret))
theorem r_bits_fits : fnOf Tryz.prog n_bits_fits = some (c_bits_fits, [.t 4], 13, false) := by kernel_rfl

/-- (*tallymark/bits.Writer).Bit -/
abbrev n_bits_Writer_Bit : FuncId := 98
def c_bits_Writer_Bit : C := (.seq (.seq (.reg false [⟨(some 4), .mv (.t 0), none, []⟩,
  ⟨(some 5), .chk (.t 4), none, [0]⟩,
  ⟨(some 6), .fa 1 (.t 5), none, [1]⟩,
  ⟨(some 7), .load false 1 (.t 6), none, [2]⟩,
  ⟨(some 8), .bin .rem (.t 7) (.d (.int .i64 8)), none, [3]⟩,
  ⟨(some 9), .bin .eql (.t 8) (.d (.int .i64 0)), none, [4]⟩])
(.cond (.t 9)
 (.reg false [⟨(some 10), .mv (.t 0), none, []⟩,
   ⟨(some 11), .mv (.t 0), none, []⟩,
   ⟨(some 12), .chk (.t 11), none, [1]⟩,
   ⟨(some 13), .fa 0 (.t 12), none, [2]⟩,
   ⟨(some 14), .load false 1 (.t 13), none, [3]⟩,
   ⟨(some 15), .bsl 5 1 1 [(.int .u8 0)] [(0, 1, (.d (.int .u8 0)))], none, []⟩,
   ⟨(some 16), .app 5 1 1 (.t 14) (.t 15), none, [4, 5]⟩,
   ⟨(some 17), .chk (.t 10), none, [0, 0, 1, 2, 3, 4, 5, 6]⟩,
   ⟨(some 18), .fa 0 (.t 17), none, [7, 0, 1, 2, 3, 4, 5, 6]⟩,
   ⟨none, .store 1 (.t 18) (.t 16), none, [8, 6, 6, 0, 1, 2, 3, 4, 5, 6]⟩])
 .skip))
(.seq (.seq (.reg false [⟨(some 19), .mv (.t 1), none, []⟩])
(.cond (.t 19)
 (.reg true [⟨(some 20), .mv (.t 0), none, []⟩,
   ⟨(some 21), .chk (.t 20), none, [0]⟩,
   ⟨(some 22), .fa 0 (.t 21), none, [1]⟩,
   ⟨(some 23), .load false 1 (.t 22), none, [2]⟩,
   ⟨(some 24), .mv (.t 0), none, []⟩,
   ⟨(some 25), .chk (.t 24), none, [4]⟩,
   ⟨(some 26), .fa 1 (.t 25), none, [5]⟩,
   ⟨(some 27), .load false 1 (.t 26), none, [6]⟩,
   ⟨(some 28), .bin .quo (.t 27) (.d (.int .i64 8)), none, [7]⟩,
   ⟨(some 29), .ix 1 (.t 23) (.t 28), none, [3, 8]⟩,
   ⟨(some 30), .load false 1 (.t 29), none, [9]⟩,
   ⟨(some 31), .mv (.t 0), none, []⟩,
   ⟨(some 32), .chk (.t 31), none, [11]⟩,
   ⟨(some 33), .fa 1 (.t 32), none, [12]⟩,
   ⟨(some 34), .load false 1 (.t 33), none, [13]⟩,
   ⟨(some 35), .bin .rem (.t 34) (.d (.int .i64 8)), none, [14]⟩,
   ⟨(some 36), .bin .sub (.d (.int .i64 7)) (.t 35), none, [15]⟩,
   ⟨(some 37), .bin .shl (.d (.int .u8 1)) (.t 36), none, [16]⟩,
   ⟨(some 38), .bin .or (.t 30) (.t 37), none, [10, 17]⟩,
   ⟨(some 39), .ix 1 (.t 23) (.t 28), none, [3, 8, 0, 1, 2, 3, 4, 5, 6, 7, 8, 9, 10, 11, 12, 13, 14, 15, 16, 17, 18]⟩,
   ⟨none, .store 1 (.t 39) (.t 38), none, [19, 18, 0, 1, 2, 3, 4, 5, 6, 7, 8, 9, 10, 11, 12, 13, 14, 15, 16, 17, 18]⟩])
 .skip))
(.reg false [⟨(some 40), .mv (.t 0), none, []⟩,
  ⟨(some 41), .chk (.t 40), none, [0]⟩,
  ⟨(some 42), .fa 1 (.t 41), none, [1]⟩,
  ⟨(some 43), .load false 1 (.t 42), none, [2]⟩,
  ⟨(some 44), .bin .add (.t 43) (.d (.int .i64 1)), none, [3]⟩,
  ⟨(some 45), .chk (.t 40), none, [0, 0, 1, 2, 3, 4]⟩,
  ⟨(some 46), .fa 1 (.t 45), none, [5, 0, 1, 2, 3, 4]⟩,
  ⟨none, .store 1 (.t 46) (.t 44), none, [6, 4, 0, 1, 2, 3, 4]⟩])))
theorem r_bits_Writer_Bit : fnOf Tryz.prog n_bits_Writer_Bit = some (c_bits_Writer_Bit, [], 47, false) := by kernel_rfl

/-- (*tallymark/bits.Reader).Left -/
abbrev n_bits_Reader_Left : FuncId := 99
def c_bits_Reader_Left : C := (.seq (.reg false [⟨(some 2), .mv (.d (.int .i64 0)), none, []⟩])
(.seq (.reg true [⟨(some 3), .mv (.t 0), none, []⟩,
  ⟨(some 4), .chk (.t 3), none, [0]⟩,
  ⟨(some 5), .fa 0 (.t 4), none, [1]⟩,
  ⟨(some 6), .load false 1 (.t 5), none, [2]⟩,
  ⟨(some 7), .len (.t 6), none, [3]⟩,
  ⟨(some 8), .bin .mul (.d (.int .i64 8)) (.t 7), none, [4]⟩,
  ⟨(some 9), .mv (.t 0), none, []⟩,
  ⟨(some 10), .chk (.t 9), none, [6]⟩,
  ⟨(some 11), .fa 1 (.t 10), none, [7]⟩,
  ⟨(some 12), .load false 1 (.t 11), none, [8]⟩,
  ⟨(some 13), .bin .sub (.t 8) (.t 12), none, [5, 9]⟩,
  ⟨(some 2), .mv (.t 13), none, [10, 0, 1, 2, 3, 4, 5, 6, 7, 8, 9, 10]⟩])
.ret))
theorem r_bits_Reader_Left : fnOf Tryz.prog n_bits_Reader_Left = some (c_bits_Reader_Left, [.t 2], 14, false) := by kernel_rfl

/-- (*tallymark/bits.Reader).Bit -/
abbrev n_bits_Reader_Bit : FuncId := 100
def c_bits_Reader_Bit : C := (.seq (.reg false [⟨(some 2), .mv (.d (.bool false)), none, []⟩,
  ⟨(some 3), .mv (.d (.int .i64 0)), none, [0]⟩])
(.seq (.reg false [⟨(some 7), .mv (.t 0), none, []⟩,
  ⟨(some 8), .call 72 [(.t 7), (.d (.int .i64 1))], none, [0]⟩,
  ⟨(some 6), .mv (.t 8), none, [1]⟩,
  ⟨(some 9), .ext (.t 6) 0, none, [2]⟩,
  ⟨(some 10), .ext (.t 6) 1, none, [2]⟩,
  ⟨(some 4), .mv (.t 9), none, [3, 1, 0, 1, 2, 3]⟩,
  ⟨(some 5), .mv (.t 10), none, [4, 5, 0, 1, 2, 3, 4, 5]⟩])
(.seq (.reg false [⟨(some 11), .mv (.t 4), none, []⟩,
  ⟨(some 12), .bin .eql (.t 11) (.d (.int .u64 1)), none, [0]⟩,
  ⟨(some 13), .mv (.t 5), none, []⟩,
  ⟨(some 2), .mv (.t 12), none, [1, 0, 1]⟩,
  ⟨(some 3), .mv (.t 13), none, [2, 3, 0, 1, 2, 3]⟩])
.ret)))
theorem r_bits_Reader_Bit : fnOf Tryz.prog n_bits_Reader_Bit = some (c_bits_Reader_Bit, [.t 2, .t 3], 14, false) := by kernel_rfl

/-- slices.Clone[[]byte,byte] -/
abbrev n_slices_Clone_byte_byte : FuncId := 101
def c_slices_Clone_byte_byte : C := (.seq (.reg false [⟨(some 2), .mv (.d .nilsl), none, []⟩])
(.seq (.seq (.reg false [⟨(some 3), .mv (.t 0), none, []⟩,
  ⟨(some 4), .snl false (.t 3), none, [0]⟩])
(.cond (.t 4)
 (.seq (.reg false [⟨(some 2), .mv (.d .nilsl), none, []⟩])
 .ret)
 .skip))
(.seq (.reg false [⟨(some 5), .bsl0, none, []⟩,
  ⟨(some 6), .mv (.t 0), none, []⟩,
  ⟨(some 7), .app 5 1 1 (.t 5) (.t 6), none, [0, 1]⟩,
  ⟨(some 2), .mv (.t 7), none, [2, 2, 0, 1, 2]⟩])
.ret)))
theorem r_slices_Clone_byte_byte : fnOf Tryz.prog n_slices_Clone_byte_byte = some (c_slices_Clone_byte_byte, [.t 2], 8, false) := by kernel_rfl

/-- tallymark/thin.thinned -/
abbrev n_thin_thinned : FuncId := 102
def c_thin_thinned : C := (.seq (.reg false [⟨(some 4), .box 117 (.t 1), none, []⟩,
  ⟨(some 6), .new 117 [(.int .i64 0), (.int .i64 0), (.bool false)], none, []⟩,
  ⟨(some 7), .mv (.d (.int .i64 0)), none, []⟩])
(.seq (.seq (.reg false [⟨(some 10), .mv (.t 2), none, []⟩,
  ⟨(some 11), .mm true [(.d (.int .i64 0)), (.t 10)], none, [0]⟩,
  ⟨(some 12), .mv (.d (.int .i64 0)), none, []⟩])
(.block 0 (.loop (.seq (.reg false [⟨(some 13), .bin .lss (.t 12) (.t 11), none, []⟩])
(.seq (.cond (.t 13)
 .skip
 (.exit 0))
(.seq (.block 1 (.seq (.reg false [⟨(some 15), .mv (.t 0), none, []⟩,
  ⟨(some 16), .fa 0 (.t 4), none, []⟩,
  ⟨(some 17), .load false 1 (.t 16), none, [1]⟩,
  ⟨(some 18), .call 118 [(.t 15), (.t 17)], none, [0, 2]⟩,
  ⟨(some 14), .mv (.t 18), none, [3]⟩,
  ⟨(some 19), .ext (.t 14) 0, none, [4]⟩,
  ⟨(some 20), .ext (.t 14) 1, none, [4]⟩,
  ⟨(some 8), .mv (.t 19), none, [5, 3, 0, 1, 2, 3, 4, 5]⟩,
  ⟨(some 9), .mv (.t 20), none, [6, 7, 0, 1, 2, 3, 4, 5, 6, 7]⟩])
(.seq (.seq (.reg false [⟨(some 21), .mv (.t 9), none, []⟩,
  ⟨(some 22), .bin .neq (.t 21) (.d (.int .i64 0)), none, [0]⟩])
(.cond (.t 22)
 (.seq (.reg false [⟨(some 23), .load true 3 (.t 4), none, []⟩,
   ⟨(some 24), .mv (.t 9), none, []⟩,
   ⟨none, .store 3 (.t 6) (.t 23), none, [0, 0]⟩,
   ⟨(some 7), .mv (.t 24), none, [1, 2, 0, 1, 2]⟩])
 .ret)
 .skip))
(.seq (.reg false [⟨(some 25), .mv (.t 8), none, []⟩,
  ⟨(some 26), .fa 0 (.t 4), none, [0]⟩,
  ⟨none, .store 1 (.t 26) (.t 25), none, [1, 0, 0]⟩])
(.reg false [⟨(some 27), .fa 1 (.t 4), none, []⟩,
  ⟨(some 28), .load false 1 (.t 27), none, [0]⟩,
  ⟨(some 29), .bin .add (.t 28) (.d (.int .i64 1)), none, [1]⟩,
  ⟨(some 30), .fa 1 (.t 4), none, [0, 1, 2]⟩,
  ⟨none, .store 1 (.t 30) (.t 29), none, [3, 2, 0, 1, 2]⟩])))))
(.reg false [⟨(some 31), .bin .add (.t 12) (.d (.int .i64 1)), none, []⟩,
  ⟨(some 12), .mv (.t 31), none, [0]⟩])))))))
(.seq (.reg false [⟨(some 32), .load true 3 (.t 4), none, []⟩,
  ⟨none, .store 3 (.t 6) (.t 32), none, [0, 0]⟩,
  ⟨(some 7), .mv (.d (.int .i64 0)), none, [1, 0, 1]⟩])
.ret)))
theorem r_thin_thinned : fnOf Tryz.prog n_thin_thinned = some (c_thin_thinned, [.cell 6 true 3, .t 7], 33, false) := by kernel_rfl

/-- (tallymark/thin.Param).down -/
abbrev n_thin_Param_down : FuncId := 103
def c_thin_Param_down : C := (.seq (.reg false [⟨(some 3), .box 120 (.t 0), none, []⟩,
  ⟨(some 5), .box 117 (.t 2), none, []⟩,
  ⟨(some 6), .new 117 [(.int .i64 0), (.int .i64 0), (.bool false)], none, []⟩,
  ⟨(some 7), .mv (.d (.int .i64 0)), none, []⟩])
(.seq (.block 0 (.loop (.seq (.seq (.reg false [⟨(some 10), .fa 0 (.t 5), none, []⟩,
  ⟨(some 11), .load false 1 (.t 10), none, [0]⟩,
  ⟨(some 12), .fa 0 (.t 3), none, []⟩,
  ⟨(some 13), .load false 1 (.t 12), none, [2]⟩,
  ⟨(some 14), .bin .gtr (.t 11) (.t 13), none, [1, 3]⟩])
(.cond (.t 14)
 .skip
 (.exit 0)))
(.block 1 (.seq (.seq (.reg false [⟨(some 15), .fa 1 (.t 5), none, []⟩,
  ⟨(some 16), .load false 1 (.t 15), none, [0]⟩,
  ⟨(some 17), .fa 1 (.t 3), none, []⟩,
  ⟨(some 18), .load false 1 (.t 17), none, [2]⟩,
  ⟨(some 19), .bin .eql (.t 16) (.t 18), none, [1, 3]⟩])
(.cond (.t 19)
 (.seq (.reg false [⟨(some 20), .fa 0 (.t 3), none, []⟩,
   ⟨(some 21), .load false 1 (.t 20), none, [0]⟩,
   ⟨(some 22), .fa 0 (.t 5), none, [0, 1]⟩,
   ⟨none, .store 1 (.t 22) (.t 21), none, [2, 1, 0, 1]⟩,
   ⟨(some 23), .fa 2 (.t 5), none, [0, 1, 2, 3]⟩,
   ⟨none, .store 1 (.t 23) (.d (.bool true)), none, [4, 3, 0, 1, 2, 3]⟩])
 (.exit 0))
 .skip))
(.seq (.reg false [⟨(some 25), .mv (.t 1), none, []⟩,
  ⟨(some 26), .load true 3 (.t 5), none, []⟩,
  ⟨(some 27), .call 102 [(.t 25), (.t 26), (.d (.int .i64 1))], none, [0, 1]⟩,
  ⟨(some 24), .mv (.t 27), none, [2]⟩,
  ⟨(some 28), .ext (.t 24) 0, none, [3]⟩,
  ⟨(some 29), .ext (.t 24) 1, none, [3]⟩,
  ⟨(some 8), .new 117 [(.int .i64 0), (.int .i64 0), (.bool false)], none, []⟩,
  ⟨none, .store 3 (.t 8) (.t 28), none, [6, 4, 2, 0, 1, 2, 3, 4, 6]⟩,
  ⟨(some 9), .mv (.t 29), none, [5, 7, 0, 1, 2, 3, 4, 5, 6, 7]⟩])
(.seq (.seq (.reg false [⟨(some 30), .mv (.t 9), none, []⟩,
  ⟨(some 31), .bin .neq (.t 30) (.d (.int .i64 0)), none, [0]⟩])
(.cond (.t 31)
 (.seq (.reg false [⟨(some 32), .load true 3 (.t 5), none, []⟩,
   ⟨(some 33), .mv (.t 9), none, []⟩,
   ⟨none, .store 3 (.t 6) (.t 32), none, [0, 0]⟩,
   ⟨(some 7), .mv (.t 33), none, [1, 2, 0, 1, 2]⟩])
 .ret)
 .skip))
(.reg false [⟨(some 34), .load true 3 (.t 8), none, []⟩,
  ⟨none, .store 3 (.t 5) (.t 34), none, [0, 0]⟩]))))))))
(.seq (.reg false [⟨(some 35), .load true 3 (.t 5), none, []⟩,
  ⟨none, .store 3 (.t 6) (.t 35), none, [0, 0]⟩,
  ⟨(some 7), .mv (.d (.int .i64 0)), none, [1, 0, 1]⟩])
.ret)))
theorem r_thin_Param_down : fnOf Tryz.prog n_thin_Param_down = some (c_thin_Param_down, [.cell 6 true 3, .t 7], 36, false) := by kernel_rfl

/-- slices.Clone[[]uint64,uint64] -/
abbrev n_slices_Clone_uint64_uint64 : FuncId := 105
def c_slices_Clone_uint64_uint64 : C := (.seq (.reg false [⟨(some 2), .mv (.d .nilsl), none, []⟩])
(.seq (.seq (.reg false [⟨(some 3), .mv (.t 0), none, []⟩,
  ⟨(some 4), .snl false (.t 3), none, [0]⟩])
(.cond (.t 4)
 (.seq (.reg false [⟨(some 2), .mv (.d .nilsl), none, []⟩])
 .ret)
 .skip))
(.seq (.reg false [⟨(some 5), .bsl0, none, []⟩,
  ⟨(some 6), .mv (.t 0), none, []⟩,
  ⟨(some 7), .app 80 1 8 (.t 5) (.t 6), none, [0, 1]⟩,
  ⟨(some 2), .mv (.t 7), none, [2, 2, 0, 1, 2]⟩])
.ret)))
theorem r_slices_Clone_uint64_uint64 : fnOf Tryz.prog n_slices_Clone_uint64_uint64 = some (c_slices_Clone_uint64_uint64, [.t 2], 8, false) := by kernel_rfl

/-- slices.Equal[[]uint64,uint64] -/
abbrev n_slices_Equal_uint64_uint64 : FuncId := 106
def c_slices_Equal_uint64_uint64 : C := (.seq (.reg false [⟨(some 4), .mv (.d (.bool false)), none, []⟩])
(.seq (.seq (.reg false [⟨(some 6), .mv (.t 0), none, []⟩,
  ⟨(some 7), .len (.t 6), none, [0]⟩,
  ⟨(some 8), .mv (.t 1), none, []⟩,
  ⟨(some 9), .len (.t 8), none, [2]⟩,
  ⟨(some 10), .bin .neq (.t 7) (.t 9), none, [1, 3]⟩])
(.cond (.t 10)
 (.seq (.reg false [⟨(some 4), .mv (.d (.bool false)), none, []⟩])
 .ret)
 .skip))
(.seq (.seq (.reg false [⟨(some 11), .mv (.t 0), none, []⟩,
  ⟨(some 12), .len (.t 11), none, [0]⟩,
  ⟨(some 13), .mv (.d (.int .i64 0)), none, []⟩])
(.block 0 (.loop (.seq (.reg false [⟨(some 14), .bin .lss (.t 13) (.t 12), none, []⟩])
(.seq (.cond (.t 14)
 .skip
 (.exit 0))
(.seq (.block 1 (.seq (.reg false [⟨(some 15), .mv (.t 13), none, []⟩,
  ⟨(some 5), .mv (.t 15), none, [0, 0]⟩])
(.seq (.reg true [⟨(some 16), .mv (.t 0), none, []⟩,
  ⟨(some 17), .mv (.t 5), none, []⟩,
  ⟨(some 18), .ix 1 (.t 16) (.t 17), none, [0, 1]⟩,
  ⟨(some 19), .load false 1 (.t 18), none, [2]⟩,
  ⟨(some 20), .mv (.t 1), none, []⟩,
  ⟨(some 21), .mv (.t 5), none, []⟩,
  ⟨(some 22), .ix 1 (.t 20) (.t 21), none, [4, 5]⟩,
  ⟨(some 23), .load false 1 (.t 22), none, [6]⟩,
  ⟨(some 24), .bin .neq (.t 19) (.t 23), none, [3, 7]⟩])
(.cond (.t 24)
 (.seq (.reg false [⟨(some 4), .mv (.d (.bool false)), none, []⟩])
 .ret)
 .skip))))
(.reg false [⟨(some 25), .bin .add (.t 13) (.d (.int .i64 1)), none, []⟩,
  ⟨(some 13), .mv (.t 25), none, [0]⟩])))))))
(.seq (.reg false [⟨(some 4), .mv (.d (.bool true)), none, []⟩])
.ret))))
theorem r_slices_Equal_uint64_uint64 : fnOf Tryz.prog n_slices_Equal_uint64_uint64 = some (c_slices_Equal_uint64_uint64, [.t 4], 26, false) := by kernel_rfl

/-- (*tallymark/bits.Reader).next -/
abbrev n_bits_Reader_next : FuncId := 107
def c_bits_Reader_next : C := (.seq (.reg false [⟨(some 2), .mv (.d (.int .u64 0)), none, []⟩])
(.seq (.reg true [⟨(some 4), .mv (.t 0), none, []⟩,
  ⟨(some 5), .chk (.t 4), none, [0]⟩,
  ⟨(some 6), .fa 0 (.t 5), none, [1]⟩,
  ⟨(some 7), .load false 1 (.t 6), none, [2]⟩,
  ⟨(some 8), .mv (.t 0), none, []⟩,
  ⟨(some 9), .chk (.t 8), none, [4]⟩,
  ⟨(some 10), .fa 1 (.t 9), none, [5]⟩,
  ⟨(some 11), .load false 1 (.t 10), none, [6]⟩,
  ⟨(some 12), .bin .quo (.t 11) (.d (.int .i64 8)), none, [7]⟩,
  ⟨(some 13), .ix 1 (.t 7) (.t 12), none, [3, 8]⟩,
  ⟨(some 14), .load false 1 (.t 13), none, [9]⟩,
  ⟨(some 15), .mv (.t 0), none, []⟩,
  ⟨(some 16), .chk (.t 15), none, [11]⟩,
  ⟨(some 17), .fa 1 (.t 16), none, [12]⟩,
  ⟨(some 18), .load false 1 (.t 17), none, [13]⟩,
  ⟨(some 19), .bin .rem (.t 18) (.d (.int .i64 8)), none, [14]⟩,
  ⟨(some 20), .bin .sub (.d (.int .i64 7)) (.t 19), none, [15]⟩,
  ⟨(some 21), .bin .shr (.t 14) (.t 20), none, [10, 16]⟩,
  ⟨(some 22), .bin .and (.t 21) (.d (.int .u8 1)), none, [17]⟩,
  ⟨(some 3), .mv (.t 22), none, [18, 0, 1, 2, 3, 4, 5, 6, 7, 8, 9, 10, 11, 12, 13, 14, 15, 16, 17, 18]⟩])
(.seq (.reg false [⟨(some 23), .mv (.t 0), none, []⟩,
  ⟨(some 24), .chk (.t 23), none, [0]⟩,
  ⟨(some 25), .fa 1 (.t 24), none, [1]⟩,
  ⟨(some 26), .load false 1 (.t 25), none, [2]⟩,
  ⟨(some 27), .bin .add (.t 26) (.d (.int .i64 1)), none, [3]⟩,
  ⟨(some 28), .chk (.t 23), none, [0, 0, 1, 2, 3, 4]⟩,
  ⟨(some 29), .fa 1 (.t 28), none, [5, 0, 1, 2, 3, 4]⟩,
  ⟨none, .store 1 (.t 29) (.t 27), none, [6, 4, 0, 1, 2, 3, 4]⟩])
(.seq (.reg false [⟨(some 30), .mv (.t 3), none, []⟩,
  ⟨(some 31), .conv .u64 (.t 30), none, [0]⟩,
  ⟨(some 2), .mv (.t 31), none, [1, 0, 1]⟩])
.ret))))
theorem r_bits_Reader_next : fnOf Tryz.prog n_bits_Reader_next = some (c_bits_Reader_next, [.t 2], 32, false) := by kernel_rfl

/-- tallymark/nat.Shl -/
abbrev n_nat_Shl : FuncId := 110
def c_nat_Shl : C := (.seq (.reg false [⟨(some 2), .box 91 (.t 0), none, []⟩,
  ⟨(some 4), .new 91 [.nilsl], none, []⟩,
  ⟨(some 5), .mv (.d (.int .i64 0)), none, []⟩])
(.seq (.seq (.reg false [⟨(some 6), .mv (.t 1), none, []⟩,
  ⟨(some 7), .bin .lss (.t 6) (.d (.int .i64 0)), none, [0]⟩,
  ⟨(some 8), .mv (.t 7), none, [1]⟩,
  ⟨(some 9), .mv (.t 1), some (8, false), [2]⟩,
  ⟨(some 10), .bin .gtr (.t 9) (.d (.int .i64 8192)), some (8, false), [3, 2]⟩,
  ⟨(some 11), .pick (.t 8) (.d (.bool true)) (.t 10), none, [2, 4]⟩])
(.cond (.t 11)
 (.seq (.reg false [⟨(some 12), .build [.nilsl] [], none, []⟩,
   ⟨none, .store 1 (.t 4) (.t 12), none, [0, 0]⟩,
   ⟨(some 5), .mv (.d (.int .i64 2)), none, [1, 0, 1]⟩])
 .ret)
 .skip))
(.seq (.reg true [⟨(some 13), .mv (.t 1), none, []⟩,
  ⟨(some 14), .bin .quo (.t 13) (.d (.int .i64 64)), none, [0]⟩,
  ⟨(some 15), .mksl 80 1 8 [(.int .u64 0)] (.t 14) (.t 14), none, [1, 1]⟩,
  ⟨(some 16), .fa 0 (.t 2), none, []⟩,
  ⟨(some 17), .load false 1 (.t 16), none, [3]⟩,
  ⟨(some 18), .mv (.t 1), none, []⟩,
  ⟨(some 19), .bin .rem (.t 18) (.d (.int .i64 64)), none, [5]⟩,
  ⟨(some 20), .call 121 [(.t 17), (.t 19)], none, [4, 6]⟩,
  ⟨(some 21), .app 80 1 8 (.t 15) (.t 20), none, [2, 7, 7]⟩,
  ⟨(some 22), .call 120 [(.t 21)], none, [8, 8]⟩,
  ⟨none, .store 1 (.t 4) (.t 22), none, [9, 9, 0, 1, 2, 3, 4, 5, 6, 7, 8, 9]⟩,
  ⟨(some 5), .mv (.d (.int .i64 0)), none, [10, 0, 1, 2, 3, 4, 5, 6, 7, 8, 9, 10]⟩])
.ret)))
theorem r_nat_Shl : fnOf Tryz.prog n_nat_Shl = some (c_nat_Shl, [.cell 4 true 1, .t 5], 23, false) := by kernel_rfl

/-- tallymark/nat.Of -/
abbrev n_nat_Of : FuncId := 111
def c_nat_Of : C := (.seq (.reg false [⟨(some 2), .new 91 [.nilsl], none, []⟩])
(.seq (.reg false [⟨(some 3), .mv (.t 0), none, []⟩,
  ⟨(some 4), .call 105 [(.t 3)], none, [0]⟩,
  ⟨(some 5), .call 120 [(.t 4)], none, [1, 1]⟩,
  ⟨none, .store 1 (.t 2) (.t 5), none, [2, 2, 0, 1, 2]⟩])
.ret))
theorem r_nat_Of : fnOf Tryz.prog n_nat_Of = some (c_nat_Of, [.cell 2 true 1], 6, false) := by kernel_rfl

/-- tallymark/nat.Cmp -/
abbrev n_nat_Cmp : FuncId := 113
def c_nat_Cmp : C := (.seq (.reg false [⟨(some 2), .box 91 (.t 0), none, []⟩,
  ⟨(some 3), .box 91 (.t 1), none, []⟩,
  ⟨(some 4), .mv (.d (.int .i64 0)), none, []⟩])
(.seq (.seq (.reg false [⟨(some 9), .fa 0 (.t 2), none, []⟩,
  ⟨(some 10), .load false 1 (.t 9), none, [0]⟩,
  ⟨(some 11), .len (.t 10), none, [1]⟩,
  ⟨(some 12), .fa 0 (.t 3), none, []⟩,
  ⟨(some 13), .load false 1 (.t 12), none, [3]⟩,
  ⟨(some 14), .len (.t 13), none, [4]⟩,
  ⟨(some 15), .bin .sub (.t 11) (.t 14), none, [2, 5]⟩,
  ⟨(some 5), .mv (.t 15), none, [6, 0, 1, 2, 3, 4, 5, 6]⟩])
(.seq (.reg false [⟨(some 16), .mv (.t 5), none, []⟩,
  ⟨(some 17), .bin .neq (.t 16) (.d (.int .i64 0)), none, [0]⟩])
(.cond (.t 17)
 (.seq (.reg false [⟨(some 18), .mv (.t 5), none, []⟩,
   ⟨(some 19), .mm false [(.t 18), (.d (.int .i64 1))], none, [0]⟩,
   ⟨(some 20), .mm true [(.d (.int .i64 (-1))), (.t 19)], none, [1]⟩,
   ⟨(some 4), .mv (.t 20), none, [2, 0, 1, 2]⟩])
 .ret)
 .skip)))
(.seq (.seq (.reg false [⟨(some 21), .fa 0 (.t 2), none, []⟩,
  ⟨(some 22), .load false 1 (.t 21), none, [0]⟩,
  ⟨(some 23), .len (.t 22), none, [1]⟩,
  ⟨(some 24), .bin .sub (.t 23) (.d (.int .i64 1)), none, [2]⟩,
  ⟨(some 6), .mv (.t 24), none, [3, 0, 1, 2, 3]⟩])
(.block 0 (.loop (.seq (.seq (.reg false [⟨(some 25), .mv (.t 6), none, []⟩,
  ⟨(some 26), .bin .geq (.t 25) (.d (.int .i64 0)), none, [0]⟩])
(.cond (.t 26)
 .skip
 (.exit 0)))
(.seq (.block 1 (.seq (.reg true [⟨(some 29), .fa 0 (.t 2), none, []⟩,
  ⟨(some 30), .load false 1 (.t 29), none, [0]⟩,
  ⟨(some 31), .mv (.t 6), none, []⟩,
  ⟨(some 32), .ix 1 (.t 30) (.t 31), none, [1, 2]⟩,
  ⟨(some 33), .load false 1 (.t 32), none, [3]⟩,
  ⟨(some 34), .fa 0 (.t 3), none, []⟩,
  ⟨(some 35), .load false 1 (.t 34), none, [5]⟩,
  ⟨(some 36), .mv (.t 6), none, []⟩,
  ⟨(some 37), .ix 1 (.t 35) (.t 36), none, [6, 7]⟩,
  ⟨(some 38), .load false 1 (.t 37), none, [8]⟩,
  ⟨(some 7), .mv (.t 33), none, [4, 0, 1, 2, 3, 4]⟩,
  ⟨(some 8), .mv (.t 38), none, [9, 10, 0, 1, 2, 3, 4, 5, 6, 7, 8, 9, 10]⟩])
(.block 2 (.seq (.reg false [⟨(some 40), .mv (.t 7), none, []⟩,
  ⟨(some 41), .mv (.t 8), none, []⟩,
  ⟨(some 42), .bin .lss (.t 40) (.t 41), none, [0, 1]⟩,
  ⟨(some 39), .mv (.t 42), none, [2]⟩])
(.cond (.t 39)
 (.seq (.reg false [⟨(some 4), .mv (.d (.int .i64 (-1))), none, []⟩])
 .ret)
 (.seq (.reg false [⟨(some 44), .mv (.t 7), none, []⟩,
   ⟨(some 45), .mv (.t 8), none, []⟩,
   ⟨(some 46), .bin .gtr (.t 44) (.t 45), none, [0, 1]⟩,
   ⟨(some 43), .mv (.t 46), none, [2]⟩])
 (.cond (.t 43)
  (.seq (.reg false [⟨(some 4), .mv (.d (.int .i64 1)), none, []⟩])
  .ret)
  .skip)))))))
(.reg false [⟨(some 27), .mv (.t 6), none, []⟩,
  ⟨(some 28), .bin .sub (.t 27) (.d (.int .i64 1)), none, [0]⟩,
  ⟨(some 6), .mv (.t 28), none, [1, 0, 1]⟩]))))))
(.seq (.reg false [⟨(some 4), .mv (.d (.int .i64 0)), none, []⟩])
.ret))))
theorem r_nat_Cmp : fnOf Tryz.prog n_nat_Cmp = some (c_nat_Cmp, [.t 4], 47, false) := by kernel_rfl

/-- math/bits.Len -/
abbrev n_math_bits_Len : FuncId := 116
def c_math_bits_Len : C := (.seq (.reg false [⟨(some 2), .mv (.d (.int .i64 0)), none, []⟩])
(.seq (.cond (.d (.bool false))
 (.seq (.reg false [⟨(some 3), .mv (.t 0), none, []⟩,
   ⟨(some 4), .conv .u32 (.t 3), none, [0]⟩,
   ⟨(some 5), .call 125 [(.t 4)], none, [1]⟩,
   ⟨(some 2), .mv (.t 5), none, [2, 2, 0, 1, 2]⟩])
 .ret)
 .skip)
(.seq (.reg false [⟨(some 6), .mv (.t 0), none, []⟩,
  ⟨(some 7), .call 126 [(.t 6)], none, [0]⟩,
  ⟨(some 2), .mv (.t 7), none, [1, 1, 0, 1]⟩])
.ret)))
theorem r_math_bits_Len : fnOf Tryz.prog n_math_bits_Len = some (c_math_bits_Len, [.t 2], 8, false) := by kernel_rfl

/-- tallymark/flip.Half -/
abbrev n_flip_Half : FuncId := 117
def c_flip_Half : C := (.seq (.reg false [⟨(some 4), .mv (.d (.bool false)), none, []⟩,
  ⟨(some 5), .mv (.d (.int .i64 0)), none, [0]⟩])
(.seq (.seq (.reg false [⟨(some 8), .mv (.t 1), none, []⟩,
  ⟨(some 9), .mm true [(.d (.int .i64 0)), (.t 8)], none, [0]⟩,
  ⟨(some 10), .mv (.d (.int .i64 0)), none, []⟩])
(.block 0 (.loop (.seq (.reg false [⟨(some 11), .bin .lss (.t 10) (.t 9), none, []⟩])
(.seq (.cond (.t 11)
 .skip
 (.exit 0))
(.seq (.block 1 (.seq (.reg false [⟨(some 13), .mv (.t 0), none, []⟩,
  ⟨(some 14), .call 127 [(.t 13)], none, [0]⟩,
  ⟨(some 12), .mv (.t 14), none, [1]⟩,
  ⟨(some 15), .ext (.t 12) 0, none, [2]⟩,
  ⟨(some 16), .ext (.t 12) 1, none, [2]⟩,
  ⟨(some 6), .mv (.t 15), none, [3, 1, 0, 1, 2, 3]⟩,
  ⟨(some 7), .mv (.t 16), none, [4, 5, 0, 1, 2, 3, 4, 5]⟩])
(.seq (.reg false [⟨(some 17), .mv (.t 6), none, []⟩,
  ⟨(some 18), .un .not (.t 17), none, [0]⟩])
(.cond (.t 18)
 (.seq (.reg false [⟨(some 19), .mv (.t 7), none, []⟩,
   ⟨(some 4), .mv (.d (.bool false)), none, []⟩,
   ⟨(some 5), .mv (.t 19), none, [0, 1, 0, 1]⟩])
 .ret)
 .skip))))
(.reg false [⟨(some 20), .bin .add (.t 10) (.d (.int .i64 1)), none, []⟩,
  ⟨(some 10), .mv (.t 20), none, [0]⟩])))))))
(.seq (.reg false [⟨(some 4), .mv (.d (.bool true)), none, []⟩,
  ⟨(some 5), .mv (.d (.int .i64 0)), none, [0, 0]⟩])
.ret)))
theorem r_flip_Half : fnOf Tryz.prog n_flip_Half = some (c_flip_Half, [.t 4, .t 5], 21, false) := by kernel_rfl

/-- tallymark/draw.Binomial -/
abbrev n_draw_Binomial : FuncId := 118
def c_draw_Binomial : C := (.seq (.reg false [⟨(some 4), .mv (.d (.int .i64 0)), none, []⟩,
  ⟨(some 5), .mv (.d (.int .i64 0)), none, [0]⟩])
(.seq (.reg false [⟨(some 6), .mv (.d (.int .i64 0)), none, []⟩])
(.seq (.seq (.reg false [⟨(some 9), .mv (.t 1), none, []⟩,
  ⟨(some 10), .mm true [(.d (.int .i64 0)), (.t 9)], none, [0]⟩,
  ⟨(some 11), .mv (.d (.int .i64 0)), none, []⟩])
(.block 0 (.loop (.seq (.reg false [⟨(some 12), .bin .lss (.t 11) (.t 10), none, []⟩])
(.seq (.cond (.t 12)
 .skip
 (.exit 0))
(.seq (.block 1 (.seq (.reg false [⟨(some 14), .mv (.t 0), none, []⟩,
  ⟨(some 15), .call 127 [(.t 14)], none, [0]⟩,
  ⟨(some 13), .mv (.t 15), none, [1]⟩,
  ⟨(some 16), .ext (.t 13) 0, none, [2]⟩,
  ⟨(some 17), .ext (.t 13) 1, none, [2]⟩,
  ⟨(some 7), .mv (.t 16), none, [3, 1, 0, 1, 2, 3]⟩,
  ⟨(some 8), .mv (.t 17), none, [4, 5, 0, 1, 2, 3, 4, 5]⟩])
(.seq (.seq (.reg false [⟨(some 18), .mv (.t 8), none, []⟩,
  ⟨(some 19), .bin .neq (.t 18) (.d (.int .i64 0)), none, [0]⟩])
(.cond (.t 19)
 (.seq (.reg false [⟨(some 20), .mv (.t 8), none, []⟩,
   ⟨(some 4), .mv (.d (.int .i64 0)), none, []⟩,
   ⟨(some 5), .mv (.t 20), none, [0, 1, 0, 1]⟩])
 .ret)
 .skip))
(.seq (.reg false [⟨(some 21), .mv (.t 7), none, []⟩])
(.cond (.t 21)
 (.reg false [⟨(some 22), .mv (.t 6), none, []⟩,
   ⟨(some 23), .bin .add (.t 22) (.d (.int .i64 1)), none, [0]⟩,
   ⟨(some 6), .mv (.t 23), none, [1, 0, 1]⟩])
 .skip)))))
(.reg false [⟨(some 24), .bin .add (.t 11) (.d (.int .i64 1)), none, []⟩,
  ⟨(some 11), .mv (.t 24), none, [0]⟩])))))))
(.seq (.reg false [⟨(some 25), .mv (.t 6), none, []⟩,
  ⟨(some 4), .mv (.t 25), none, [0, 0]⟩,
  ⟨(some 5), .mv (.d (.int .i64 0)), none, [1, 0, 1]⟩])
.ret))))
theorem r_draw_Binomial : fnOf Tryz.prog n_draw_Binomial = some (c_draw_Binomial, [.t 4, .t 5], 26, false) := by kernel_rfl

/-- tallymark/nat.trimmed -/
abbrev n_nat_trimmed : FuncId := 120
def c_nat_trimmed : C := (.seq (.reg false [⟨(some 2), .new 91 [.nilsl], none, []⟩])
(.seq (.reg false [⟨(some 4), .mv (.t 0), none, []⟩,
  ⟨(some 5), .len (.t 4), none, [0]⟩,
  ⟨(some 3), .mv (.t 5), none, [1, 0, 1]⟩])
(.seq (.block 0 (.loop (.seq (.seq (.reg false [⟨(some 6), .mv (.t 3), none, []⟩,
  ⟨(some 7), .bin .gtr (.t 6) (.d (.int .i64 0)), none, [0]⟩,
  ⟨(some 8), .mv (.t 7), none, [1]⟩,
  ⟨(some 9), .mv (.t 0), some (8, true), [2]⟩,
  ⟨(some 10), .mv (.t 3), some (8, true), [2]⟩,
  ⟨(some 11), .bin .sub (.t 10) (.d (.int .i64 1)), some (8, true), [4, 2]⟩,
  ⟨(some 12), .ix 1 (.t 9) (.t 11), some (8, true), [3, 5, 2]⟩,
  ⟨(some 13), .load false 1 (.t 12), some (8, true), [6, 2]⟩,
  ⟨(some 14), .bin .eql (.t 13) (.d (.int .u64 0)), some (8, true), [7, 2]⟩,
  ⟨(some 15), .pick (.t 8) (.t 14) (.d (.bool false)), none, [2, 8]⟩])
(.cond (.t 15)
 .skip
 (.exit 0)))
(.block 1 (.reg false [⟨(some 16), .mv (.t 3), none, []⟩,
  ⟨(some 17), .bin .sub (.t 16) (.d (.int .i64 1)), none, [0]⟩,
  ⟨(some 3), .mv (.t 17), none, [1, 0, 1]⟩])))))
(.seq (.reg false [⟨(some 18), .mv (.t 0), none, []⟩,
  ⟨(some 19), .mv (.t 3), none, []⟩,
  ⟨(some 20), .slice 1 (.t 18) none (some (.t 19)) none, none, [0, 1]⟩,
  ⟨(some 21), .build [.nilsl] [(0, 1, (.t 20))], none, [2]⟩,
  ⟨none, .store 1 (.t 2) (.t 21), none, [3, 0, 1, 2, 3]⟩])
.ret))))
theorem r_nat_trimmed : fnOf Tryz.prog n_nat_trimmed = some (c_nat_trimmed, [.cell 2 true 1], 22, false) := by kernel_rfl

/-- tallymark/nat.moved -/
abbrev n_nat_moved : FuncId := 121
def c_nat_moved : C := (.seq (.reg false [⟨(some 4), .mv (.d .nilsl), none, []⟩])
(.seq (.reg false [⟨(some 8), .mv (.t 0), none, []⟩,
  ⟨(some 9), .len (.t 8), none, [0]⟩,
  ⟨(some 10), .bin .add (.t 9) (.d (.int .i64 1)), none, [1]⟩,
  ⟨(some 11), .mksl 80 1 8 [(.int .u64 0)] (.t 10) (.t 10), none, [2, 2]⟩,
  ⟨(some 5), .mv (.t 11), none, [3, 0, 1, 2, 3]⟩])
(.seq (.seq (.reg false [⟨(some 12), .mv (.t 0), none, []⟩,
  ⟨(some 13), .len (.t 12), none, [0]⟩,
  ⟨(some 14), .mv (.d (.int .i64 0)), none, []⟩])
(.block 0 (.loop (.seq (.reg false [⟨(some 15), .bin .lss (.t 14) (.t 13), none, []⟩])
(.seq (.cond (.t 15)
 .skip
 (.exit 0))
(.seq (.block 1 (.seq (.reg false [⟨(some 16), .mv (.t 14), none, []⟩,
  ⟨(some 17), .ix 1 (.t 12) (.t 14), none, []⟩,
  ⟨(some 18), .load false 1 (.t 17), none, [1]⟩,
  ⟨(some 6), .mv (.t 16), none, [0, 0, 1, 2]⟩,
  ⟨(some 7), .mv (.t 18), none, [2, 3, 0, 1, 2, 3]⟩])
(.seq (.reg true [⟨(some 19), .mv (.t 5), none, []⟩,
  ⟨(some 20), .mv (.t 6), none, []⟩,
  ⟨(some 21), .ix 1 (.t 19) (.t 20), none, [0, 1]⟩,
  ⟨(some 22), .load false 1 (.t 21), none, [2]⟩,
  ⟨(some 23), .mv (.t 7), none, []⟩,
  ⟨(some 24), .mv (.t 1), none, []⟩,
  ⟨(some 25), .bin .shl (.t 23) (.t 24), none, [4, 5]⟩,
  ⟨(some 26), .bin .or (.t 22) (.t 25), none, [3, 6]⟩,
  ⟨(some 27), .ix 1 (.t 19) (.t 20), none, [0, 1, 0, 1, 2, 3, 4, 5, 6, 7]⟩,
  ⟨none, .store 1 (.t 27) (.t 26), none, [8, 7, 0, 1, 2, 3, 4, 5, 6, 7]⟩])
(.reg false [⟨(some 28), .mv (.t 5), none, []⟩,
  ⟨(some 29), .mv (.t 6), none, []⟩,
  ⟨(some 30), .bin .add (.t 29) (.d (.int .i64 1)), none, [1]⟩,
  ⟨(some 31), .mv (.t 7), none, []⟩,
  ⟨(some 32), .mv (.t 1), none, []⟩,
  ⟨(some 33), .bin .sub (.d (.int .i64 64)) (.t 32), none, [4]⟩,
  ⟨(some 34), .bin .shr (.t 31) (.t 33), none, [3, 5]⟩,
  ⟨(some 35), .ix 1 (.t 28) (.t 30), none, [0, 2, 0, 1, 2, 3, 4, 5, 6]⟩,
  ⟨none, .store 1 (.t 35) (.t 34), none, [7, 6, 0, 1, 2, 3, 4, 5, 6]⟩]))))
(.reg false [⟨(some 36), .bin .add (.t 14) (.d (.int .i64 1)), none, []⟩,
  ⟨(some 14), .mv (.t 36), none, [0]⟩])))))))
(.seq (.reg false [⟨(some 37), .mv (.t 5), none, []⟩,
  ⟨(some 4), .mv (.t 37), none, [0, 0]⟩])
.ret))))
theorem r_nat_moved : fnOf Tryz.prog n_nat_moved = some (c_nat_moved, [.t 4], 38, false) := by kernel_rfl

/-- (tallymark/nat.Nat).Zero -/
abbrev n_nat_Nat_Zero : FuncId := 122
def c_nat_Nat_Zero : C := (.seq (.reg false [⟨(some 1), .box 91 (.t 0), none, []⟩,
  ⟨(some 2), .mv (.d (.bool false)), none, []⟩])
(.seq (.reg false [⟨(some 3), .fa 0 (.t 1), none, []⟩,
  ⟨(some 4), .load false 1 (.t 3), none, [0]⟩,
  ⟨(some 5), .len (.t 4), none, [1]⟩,
  ⟨(some 6), .bin .eql (.t 5) (.d (.int .i64 0)), none, [2]⟩,
  ⟨(some 2), .mv (.t 6), none, [3, 0, 1, 2, 3]⟩])
.ret))
theorem r_nat_Nat_Zero : fnOf Tryz.prog n_nat_Nat_Zero = some (c_nat_Nat_Zero, [.t 2], 7, false) := by kernel_rfl

/-- tallymark/nat.Add -/
abbrev n_nat_Add : FuncId := 124
def c_nat_Add : C := (.seq (.reg false [⟨(some 2), .box 91 (.t 0), none, []⟩,
  ⟨(some 3), .box 91 (.t 1), none, []⟩,
  ⟨(some 4), .new 91 [.nilsl], none, []⟩])
(.seq (.seq (.reg false [⟨(some 10), .fa 0 (.t 2), none, []⟩,
  ⟨(some 11), .load false 1 (.t 10), none, [0]⟩,
  ⟨(some 12), .len (.t 11), none, [1]⟩,
  ⟨(some 13), .fa 0 (.t 3), none, []⟩,
  ⟨(some 14), .load false 1 (.t 13), none, [3]⟩,
  ⟨(some 15), .len (.t 14), none, [4]⟩,
  ⟨(some 16), .bin .lss (.t 12) (.t 15), none, [2, 5]⟩])
(.cond (.t 16)
 (.reg false [⟨(some 17), .load true 1 (.t 3), none, []⟩,
   ⟨(some 18), .load true 1 (.t 2), none, []⟩,
   ⟨none, .store 1 (.t 2) (.t 17), none, [0, 0, 1]⟩,
   ⟨none, .store 1 (.t 3) (.t 18), none, [1, 2, 0, 1, 2]⟩])
 .skip))
(.seq (.reg false [⟨(some 19), .fa 0 (.t 2), none, []⟩,
  ⟨(some 20), .load false 1 (.t 19), none, [0]⟩,
  ⟨(some 21), .len (.t 20), none, [1]⟩,
  ⟨(some 22), .bin .add (.t 21) (.d (.int .i64 1)), none, [2]⟩,
  ⟨(some 23), .mksl 80 1 8 [(.int .u64 0)] (.t 22) (.t 22), none, [3, 3]⟩,
  ⟨(some 5), .mv (.t 23), none, [4, 0, 1, 2, 3, 4]⟩])
(.seq (.reg false [⟨(some 6), .mv (.d (.int .u64 0)), none, []⟩])
(.seq (.seq (.reg false [⟨(some 24), .fa 0 (.t 2), none, []⟩,
  ⟨(some 25), .load false 1 (.t 24), none, [0]⟩,
  ⟨(some 26), .len (.t 25), none, [1]⟩,
  ⟨(some 27), .mv (.d (.int .i64 0)), none, []⟩])
(.block 0 (.loop (.seq (.reg false [⟨(some 28), .bin .lss (.t 27) (.t 26), none, []⟩])
(.seq (.cond (.t 28)
 .skip
 (.exit 0))
(.seq (.block 1 (.seq (.reg false [⟨(some 29), .mv (.t 27), none, []⟩,
  ⟨(some 30), .ix 1 (.t 25) (.t 27), none, []⟩,
  ⟨(some 31), .load false 1 (.t 30), none, [1]⟩,
  ⟨(some 7), .mv (.t 29), none, [0, 0, 1, 2]⟩,
  ⟨(some 8), .mv (.t 31), none, [2, 3, 0, 1, 2, 3]⟩])
(.seq (.reg false [⟨(some 9), .mv (.d (.int .u64 0)), none, []⟩])
(.seq (.seq (.reg false [⟨(some 32), .mv (.t 7), none, []⟩,
  ⟨(some 33), .fa 0 (.t 3), none, []⟩,
  ⟨(some 34), .load false 1 (.t 33), none, [1]⟩,
  ⟨(some 35), .len (.t 34), none, [2]⟩,
  ⟨(some 36), .bin .lss (.t 32) (.t 35), none, [0, 3]⟩])
(.cond (.t 36)
 (.reg false [⟨(some 37), .fa 0 (.t 3), none, []⟩,
   ⟨(some 38), .load false 1 (.t 37), none, [0]⟩,
   ⟨(some 39), .mv (.t 7), none, []⟩,
   ⟨(some 40), .ix 1 (.t 38) (.t 39), none, [1, 2]⟩,
   ⟨(some 41), .load false 1 (.t 40), none, [3]⟩,
   ⟨(some 9), .mv (.t 41), none, [4, 0, 1, 2, 3, 4]⟩])
 .skip))
(.reg false [⟨(some 43), .mv (.t 5), none, []⟩,
  ⟨(some 44), .mv (.t 7), none, []⟩,
  ⟨(some 45), .mv (.t 8), none, []⟩,
  ⟨(some 46), .mv (.t 9), none, []⟩,
  ⟨(some 47), .mv (.t 6), none, []⟩,
  ⟨(some 48), .call 123 [(.t 45), (.t 46), (.t 47)], none, [2, 3, 4]⟩,
  ⟨(some 42), .mv (.t 48), none, [5]⟩,
  ⟨(some 49), .ext (.t 42) 0, none, [6]⟩,
  ⟨(some 50), .ext (.t 42) 1, none, [6]⟩,
  ⟨(some 51), .ix 1 (.t 43) (.t 44), none, [0, 1, 0, 1, 2, 3, 4, 5, 6, 7]⟩,
  ⟨none, .store 1 (.t 51) (.t 49), none, [9, 7, 5, 0, 1, 2, 3, 4, 5, 6, 7]⟩,
  ⟨(some 6), .mv (.t 50), none, [8, 10, 0, 1, 2, 3, 4, 5, 6, 7, 8, 9, 10]⟩])))))
(.reg false [⟨(some 52), .bin .add (.t 27) (.d (.int .i64 1)), none, []⟩,
  ⟨(some 27), .mv (.t 52), none, [0]⟩])))))))
(.seq (.reg false [⟨(some 53), .mv (.t 5), none, []⟩,
  ⟨(some 54), .fa 0 (.t 2), none, []⟩,
  ⟨(some 55), .load false 1 (.t 54), none, [1]⟩,
  ⟨(some 56), .len (.t 55), none, [2]⟩,
  ⟨(some 57), .mv (.t 6), none, []⟩,
  ⟨(some 58), .ix 1 (.t 53) (.t 56), none, [0, 3, 0, 1, 2, 3, 4]⟩,
  ⟨none, .store 1 (.t 58) (.t 57), none, [5, 4, 0, 1, 2, 3, 4]⟩])
(.seq (.reg false [⟨(some 59), .mv (.t 5), none, []⟩,
  ⟨(some 60), .call 120 [(.t 59)], none, [0]⟩,
  ⟨none, .store 1 (.t 4) (.t 60), none, [1, 1, 0, 1]⟩])
.ret)))))))
theorem r_nat_Add : fnOf Tryz.prog n_nat_Add = some (c_nat_Add, [.cell 4 true 1], 61, false) := by kernel_rfl

/-- math/bits.Len64 -/
abbrev n_math_bits_Len64 : FuncId := 126
def c_math_bits_Len64 : C := (.seq (.reg false [⟨(some 2), .mv (.d (.int .i64 0)), none, []⟩])
(.seq (.seq (.reg false [⟨(some 3), .mv (.t 0), none, []⟩,
  ⟨(some 4), .bin .geq (.t 3) (.d (.int .u64 4294967296)), none, [0]⟩])
(.cond (.t 4)
 (.seq (.reg false [⟨(some 5), .mv (.t 0), none, []⟩,
   ⟨(some 6), .bin .shr (.t 5) (.d (.int .u64 32)), none, [0]⟩,
   ⟨(some 0), .mv (.t 6), none, [1, 0, 1]⟩])
 (.reg false [⟨(some 2), .mv (.d (.int .i64 32)), none, []⟩]))
 .skip))
(.seq (.seq (.reg false [⟨(some 7), .mv (.t 0), none, []⟩,
  ⟨(some 8), .bin .geq (.t 7) (.d (.int .u64 65536)), none, [0]⟩])
(.cond (.t 8)
 (.seq (.reg false [⟨(some 9), .mv (.t 0), none, []⟩,
   ⟨(some 10), .bin .shr (.t 9) (.d (.int .u64 16)), none, [0]⟩,
   ⟨(some 0), .mv (.t 10), none, [1, 0, 1]⟩])
 (.reg false [⟨(some 11), .mv (.t 2), none, []⟩,
   ⟨(some 12), .bin .add (.t 11) (.d (.int .i64 16)), none, [0]⟩,
   ⟨(some 2), .mv (.t 12), none, [1, 0, 1]⟩]))
 .skip))
(.seq (.seq (.reg false [⟨(some 13), .mv (.t 0), none, []⟩,
  ⟨(some 14), .bin .geq (.t 13) (.d (.int .u64 256)), none, [0]⟩])
(.cond (.t 14)
 (.seq (.reg false [⟨(some 15), .mv (.t 0), none, []⟩,
   ⟨(some 16), .bin .shr (.t 15) (.d (.int .u64 8)), none, [0]⟩,
   ⟨(some 0), .mv (.t 16), none, [1, 0, 1]⟩])
 (.reg false [⟨(some 17), .mv (.t 2), none, []⟩,
   ⟨(some 18), .bin .add (.t 17) (.d (.int .i64 8)), none, [0]⟩,
   ⟨(some 2), .mv (.t 18), none, [1, 0, 1]⟩]))
 .skip))
(.seq (.reg false [⟨(some 19), .mv (.t 2), none, []⟩,
  ⟨(some 20), .mv (.t 0), none, []⟩,
  ⟨(some 21), .conv .u8 (.t 20), none, [1]⟩,
  ⟨(some 22), .gstr (.d (.str ⟨#[0, 1, 2, 2, 3, 3, 3, 3, 4, 4, 4, 4, 4, 4, 4, 4, 5, 5, 5, 5, 5, 5, 5, 5, 5, 5, 5, 5, 5, 5, 5, 5, 6, 6, 6, 6, 6, 6, 6, 6, 6, 6, 6, 6, 6, 6, 6, 6, 6, 6, 6, 6, 6, 6, 6, 6, 6, 6, 6, 6, 6, 6, 6, 6, 7, 7, 7, 7, 7, 7, 7, 7, 7, 7, 7, 7, 7, 7, 7, 7, 7, 7, 7, 7, 7, 7, 7, 7, 7, 7, 7, 7, 7, 7, 7, 7, 7, 7, 7, 7, 7, 7, 7, 7, 7, 7, 7, 7, 7, 7, 7, 7, 7, 7, 7, 7, 7, 7, 7, 7, 7, 7, 7, 7, 7, 7, 7, 7, 8, 8, 8, 8, 8, 8, 8, 8, 8, 8, 8, 8, 8, 8, 8, 8, 8, 8, 8, 8, 8, 8, 8, 8, 8, 8, 8, 8, 8, 8, 8, 8, 8, 8, 8, 8, 8, 8, 8, 8, 8, 8, 8, 8, 8, 8, 8, 8, 8, 8, 8, 8, 8, 8, 8, 8, 8, 8, 8, 8, 8, 8, 8, 8, 8, 8, 8, 8, 8, 8, 8, 8, 8, 8, 8, 8, 8, 8, 8, 8, 8, 8, 8, 8, 8, 8, 8, 8, 8, 8, 8, 8, 8, 8, 8, 8, 8, 8, 8, 8, 8, 8, 8, 8, 8, 8, 8, 8, 8, 8, 8, 8, 8, 8, 8, 8, 8, 8, 8, 8, 8, 8, 8, 8, 8, 8, 8, 8]⟩)) (.t 21), none, [2]⟩,
  ⟨(some 23), .conv .i64 (.t 22), none, [3]⟩,
  ⟨(some 24), .bin .add (.t 19) (.t 23), none, [0, 4]⟩,
  ⟨(some 2), .mv (.t 24), none, [5, 0, 1, 2, 3, 4, 5]⟩])
.ret)))))
theorem r_math_bits_Len64 : fnOf Tryz.prog n_math_bits_Len64 = some (c_math_bits_Len64, [.t 2], 25, false) := by kernel_rfl

/-- (*tallymark/tape.Tape).Flip -/
abbrev n_tape_Tape_Flip : FuncId := 127
def c_tape_Tape_Flip : C := (.seq (.reg false [⟨(some 2), .mv (.d (.bool false)), none, []⟩,
  ⟨(some 3), .mv (.d (.int .i64 0)), none, [0]⟩])
(.seq (.seq (.reg true [⟨(some 4), .mv (.t 0), none, []⟩,
  ⟨(some 5), .chk (.t 4), none, [0]⟩,
  ⟨(some 6), .fa 0 (.t 5), none, [1]⟩,
  ⟨(some 7), .fa 1 (.t 6), none, [2]⟩,
  ⟨(some 8), .load false 1 (.t 7), none, [3]⟩,
  ⟨(some 9), .mv (.t 8), none, [4]⟩,
  ⟨(some 10), .mv (.t 0), some (9, false), [5]⟩,
  ⟨(some 11), .chk (.t 10), some (9, false), [6, 5]⟩,
  ⟨(some 12), .fa 0 (.t 11), some (9, false), [7, 5]⟩,
  ⟨(some 13), .fa 0 (.t 12), some (9, false), [8, 5]⟩,
  ⟨(some 14), .load false 1 (.t 13), some (9, false), [9, 5]⟩,
  ⟨(some 15), .mv (.t 0), some (9, false), [5]⟩,
  ⟨(some 16), .chk (.t 15), some (9, false), [11, 5]⟩,
  ⟨(some 17), .fa 2 (.t 16), some (9, false), [12, 5]⟩,
  ⟨(some 18), .load false 1 (.t 17), some (9, false), [13, 5]⟩,
  ⟨(some 19), .len (.t 18), some (9, false), [14, 5]⟩,
  ⟨(some 20), .bin .eql (.t 14) (.t 19), some (9, false), [10, 15, 5]⟩,
  ⟨(some 21), .pick (.t 9) (.d (.bool true)) (.t 20), none, [5, 16]⟩])
(.cond (.t 21)
 (.seq (.reg false [⟨(some 22), .mv (.t 0), none, []⟩,
   ⟨(some 23), .chk (.t 22), none, [0, 0]⟩,
   ⟨(some 24), .fa 0 (.t 23), none, [1, 0]⟩,
   ⟨(some 25), .fa 1 (.t 24), none, [2, 0]⟩,
   ⟨none, .store 1 (.t 25) (.d (.bool true)), none, [3, 0]⟩])
 (.seq (.reg false [⟨(some 2), .mv (.d (.bool false)), none, []⟩,
   ⟨(some 3), .mv (.d (.int .i64 8)), none, [0, 0]⟩])
 .ret))
 .skip))
(.seq (.reg false [⟨(some 26), .mv (.t 0), none, []⟩,
  ⟨(some 27), .chk (.t 26), none, [0]⟩,
  ⟨(some 28), .fa 0 (.t 27), none, [1]⟩,
  ⟨(some 29), .fa 0 (.t 28), none, [2]⟩,
  ⟨(some 30), .load false 1 (.t 29), none, [3]⟩,
  ⟨(some 31), .bin .add (.t 30) (.d (.int .i64 1)), none, [4]⟩,
  ⟨(some 32), .chk (.t 26), none, [0, 0, 1, 2, 3, 4, 5]⟩,
  ⟨(some 33), .fa 0 (.t 32), none, [6, 0, 1, 2, 3, 4, 5]⟩,
  ⟨(some 34), .fa 0 (.t 33), none, [7, 0, 1, 2, 3, 4, 5]⟩,
  ⟨none, .store 1 (.t 34) (.t 31), none, [8, 5, 0, 1, 2, 3, 4, 5]⟩])
(.seq (.reg true [⟨(some 35), .mv (.t 0), none, []⟩,
  ⟨(some 36), .chk (.t 35), none, [0]⟩,
  ⟨(some 37), .fa 2 (.t 36), none, [1]⟩,
  ⟨(some 38), .load false 1 (.t 37), none, [2]⟩,
  ⟨(some 39), .mv (.t 0), none, []⟩,
  ⟨(some 40), .chk (.t 39), none, [4]⟩,
  ⟨(some 41), .fa 0 (.t 40), none, [5]⟩,
  ⟨(some 42), .fa 0 (.t 41), none, [6]⟩,
  ⟨(some 43), .load false 1 (.t 42), none, [7]⟩,
  ⟨(some 44), .bin .sub (.t 43) (.d (.int .i64 1)), none, [8]⟩,
  ⟨(some 45), .ix 1 (.t 38) (.t 44), none, [3, 9]⟩,
  ⟨(some 46), .load false 1 (.t 45), none, [10]⟩,
  ⟨(some 2), .mv (.t 46), none, [11, 0, 1, 2, 3, 4, 5, 6, 7, 8, 9, 10, 11]⟩,
  ⟨(some 3), .mv (.d (.int .i64 0)), none, [12, 0, 1, 2, 3, 4, 5, 6, 7, 8, 9, 10, 11, 12]⟩])
.ret))))
theorem r_tape_Tape_Flip : fnOf Tryz.prog n_tape_Tape_Flip = some (c_tape_Tape_Flip, [.t 2, .t 3], 47, false) := by kernel_rfl

/-- (tallymark/nat.Nat).Bits -/
abbrev n_nat_Nat_Bits : FuncId := 146
def c_nat_Nat_Bits : C := (.seq (.reg false [⟨(some 1), .box 91 (.t 0), none, []⟩,
  ⟨(some 2), .mv (.d (.int .i64 0)), none, []⟩])
(.seq (.reg false [⟨(some 4), .fa 0 (.t 1), none, []⟩,
  ⟨(some 5), .load false 1 (.t 4), none, [0]⟩,
  ⟨(some 6), .len (.t 5), none, [1]⟩,
  ⟨(some 3), .mv (.t 6), none, [2, 0, 1, 2]⟩])
(.seq (.seq (.reg false [⟨(some 7), .mv (.t 3), none, []⟩,
  ⟨(some 8), .bin .eql (.t 7) (.d (.int .i64 0)), none, [0]⟩])
(.cond (.t 8)
 (.seq (.reg false [⟨(some 2), .mv (.d (.int .i64 0)), none, []⟩])
 .ret)
 .skip))
(.seq (.reg false [⟨(some 9), .mv (.t 3), none, []⟩,
  ⟨(some 10), .bin .sub (.t 9) (.d (.int .i64 1)), none, [0]⟩,
  ⟨(some 11), .bin .mul (.d (.int .i64 64)) (.t 10), none, [1]⟩,
  ⟨(some 12), .fa 0 (.t 1), none, []⟩,
  ⟨(some 13), .load false 1 (.t 12), none, [3]⟩,
  ⟨(some 14), .mv (.t 3), none, []⟩,
  ⟨(some 15), .bin .sub (.t 14) (.d (.int .i64 1)), none, [5]⟩,
  ⟨(some 16), .ix 1 (.t 13) (.t 15), none, [4, 6]⟩,
  ⟨(some 17), .load false 1 (.t 16), none, [7]⟩,
  ⟨(some 18), .call 126 [(.t 17)], none, [8]⟩,
  ⟨(some 19), .bin .add (.t 11) (.t 18), none, [2, 9]⟩,
  ⟨(some 2), .mv (.t 19), none, [10, 9, 0, 1, 2, 3, 4, 5, 6, 7, 8, 9, 10]⟩])
.ret))))
theorem r_nat_Nat_Bits : fnOf Tryz.prog n_nat_Nat_Bits = some (c_nat_Nat_Bits, [.t 2], 20, false) := by kernel_rfl

/-- (tallymark/chain.aMorris).good -/
abbrev n_chain_aMorris_good : FuncId := 151
def c_chain_aMorris_good : C := (.seq (.reg false [⟨(some 2), .mv (.d (.bool false)), none, []⟩])
(.seq (.reg false [⟨(some 3), .mv (.t 0), none, []⟩,
  ⟨(some 4), .call 156 [(.t 3)], none, [0]⟩,
  ⟨(some 2), .mv (.t 4), none, [1, 1, 0, 1]⟩])
.ret))
theorem r_chain_aMorris_good : fnOf Tryz.prog n_chain_aMorris_good = some (c_chain_aMorris_good, [.t 2], 5, false) := by kernel_rfl

/-- (tallymark/chain.aMorris).step -/
abbrev n_chain_aMorris_step : FuncId := 153
def c_chain_aMorris_step : C := (.seq (.reg false [⟨(some 6), .mv (.d (.bool false)), none, []⟩,
  ⟨(some 7), .mv (.d (.int .i64 0)), none, [0]⟩])
(.seq (.reg false [⟨(some 8), .mv (.t 1), none, []⟩,
  ⟨(some 9), .mv (.t 0), none, []⟩,
  ⟨(some 10), .mv (.t 2), none, []⟩,
  ⟨(some 11), .call 157 [(.t 8), (.t 9), (.t 10)], none, [0, 1, 2]⟩,
  ⟨(some 12), .ext (.t 11) 0, none, [3]⟩,
  ⟨(some 13), .ext (.t 11) 1, none, [3]⟩,
  ⟨(some 6), .mv (.t 12), none, [4, 3, 0, 1, 2, 3, 4, 5]⟩,
  ⟨(some 7), .mv (.t 13), none, [5, 6, 0, 1, 2, 3, 4, 5, 6]⟩])
.ret))
theorem r_chain_aMorris_step : fnOf Tryz.prog n_chain_aMorris_step = some (c_chain_aMorris_step, [.t 6, .t 7], 14, false) := by kernel_rfl

/-- tallymark/morris.Good -/
abbrev n_morris_Good : FuncId := 156
def c_morris_Good : C := (.seq (.reg false [⟨(some 2), .mv (.d (.bool false)), none, []⟩])
(.seq (.reg false [⟨(some 3), .mv (.t 0), none, []⟩,
  ⟨(some 4), .bin .geq (.t 3) (.d (.int .i64 1)), none, [0]⟩,
  ⟨(some 5), .mv (.t 4), none, [1]⟩,
  ⟨(some 6), .mv (.t 0), some (5, true), [2]⟩,
  ⟨(some 7), .bin .leq (.t 6) (.d (.int .i64 4096)), some (5, true), [3, 2]⟩,
  ⟨(some 8), .pick (.t 5) (.t 7) (.d (.bool false)), none, [2, 4]⟩,
  ⟨(some 2), .mv (.t 8), none, [5, 2, 0, 1, 2, 3, 4, 5]⟩])
.ret))
theorem r_morris_Good : fnOf Tryz.prog n_morris_Good = some (c_morris_Good, [.t 2], 9, false) := by kernel_rfl

/-- tallymark/morris.Step -/
abbrev n_morris_Step : FuncId := 157
def c_morris_Step : C := (.seq (.reg false [⟨(some 6), .mv (.d (.bool false)), none, []⟩,
  ⟨(some 7), .mv (.d (.int .i64 0)), none, [0]⟩])
(.seq (.seq (.reg false [⟨(some 9), .mv (.t 1), none, []⟩,
  ⟨(some 10), .mv (.t 2), none, []⟩,
  ⟨(some 11), .bsl 3 1 1 [(.int .i64 0)] [(0, 1, (.t 10))], none, [1]⟩,
  ⟨(some 12), .call 159 [(.t 9), (.t 11)], none, [0, 2]⟩,
  ⟨(some 8), .mv (.t 12), none, [3, 3, 0, 1, 2, 3]⟩])
(.seq (.reg false [⟨(some 13), .mv (.t 8), none, []⟩,
  ⟨(some 14), .bin .neq (.t 13) (.d (.int .i64 0)), none, [0]⟩])
(.cond (.t 14)
 (.seq (.reg false [⟨(some 15), .mv (.t 8), none, []⟩,
   ⟨(some 6), .mv (.d (.bool false)), none, []⟩,
   ⟨(some 7), .mv (.t 15), none, [0, 1, 0, 1]⟩])
 .ret)
 .skip)))
(.seq (.reg false [⟨(some 16), .mv (.t 0), none, []⟩,
  ⟨(some 17), .mv (.t 1), none, []⟩,
  ⟨(some 18), .mv (.t 2), none, []⟩,
  ⟨(some 19), .call 160 [(.t 16), (.t 17), (.t 18)], none, [0, 1, 2]⟩,
  ⟨(some 20), .ext (.t 19) 0, none, [3]⟩,
  ⟨(some 21), .ext (.t 19) 1, none, [3]⟩,
  ⟨(some 6), .mv (.t 20), none, [4, 3, 0, 1, 2, 3, 4, 5]⟩,
  ⟨(some 7), .mv (.t 21), none, [5, 6, 0, 1, 2, 3, 4, 5, 6]⟩])
.ret)))
theorem r_morris_Step : fnOf Tryz.prog n_morris_Step = some (c_morris_Step, [.t 6, .t 7], 22, false) := by kernel_rfl

/-- tallymark/morris.wrong -/
abbrev n_morris_wrong : FuncId := 159
def c_morris_wrong : C := (.seq (.reg false [⟨(some 4), .mv (.d (.int .i64 0)), none, []⟩])
(.seq (.seq (.reg false [⟨(some 7), .mv (.t 0), none, []⟩,
  ⟨(some 8), .call 156 [(.t 7)], none, [0]⟩,
  ⟨(some 9), .un .not (.t 8), none, [1]⟩])
(.cond (.t 9)
 (.seq (.reg false [⟨(some 4), .mv (.d (.int .i64 10)), none, []⟩])
 .ret)
 .skip))
(.seq (.seq (.reg false [⟨(some 10), .mv (.t 1), none, []⟩,
  ⟨(some 11), .len (.t 10), none, [0]⟩,
  ⟨(some 12), .mv (.d (.int .i64 0)), none, []⟩])
(.block 0 (.loop (.seq (.reg false [⟨(some 13), .bin .lss (.t 12) (.t 11), none, []⟩])
(.seq (.cond (.t 13)
 .skip
 (.exit 0))
(.seq (.block 1 (.seq (.reg false [⟨(some 14), .ix 1 (.t 10) (.t 12), none, []⟩,
  ⟨(some 15), .load false 1 (.t 14), none, [0]⟩,
  ⟨(some 6), .mv (.t 15), none, [1, 0, 1]⟩])
(.seq (.reg false [⟨(some 16), .mv (.t 6), none, []⟩,
  ⟨(some 17), .bin .lss (.t 16) (.d (.int .i64 0)), none, [0]⟩,
  ⟨(some 18), .mv (.t 17), none, [1]⟩,
  ⟨(some 19), .mv (.t 6), some (18, false), [2]⟩,
  ⟨(some 20), .bin .gtr (.t 19) (.d (.int .i64 1023)), some (18, false), [3, 2]⟩,
  ⟨(some 21), .pick (.t 18) (.d (.bool true)) (.t 20), none, [2, 4]⟩])
(.cond (.t 21)
 (.seq (.reg false [⟨(some 4), .mv (.d (.int .i64 2)), none, []⟩])
 .ret)
 .skip))))
(.reg false [⟨(some 22), .bin .add (.t 12) (.d (.int .i64 1)), none, []⟩,
  ⟨(some 12), .mv (.t 22), none, [0]⟩])))))))
(.seq (.reg false [⟨(some 4), .mv (.d (.int .i64 0)), none, []⟩])
.ret))))
theorem r_morris_wrong : fnOf Tryz.prog n_morris_wrong = some (c_morris_wrong, [.t 4], 23, false) := by kernel_rfl

/-- tallymark/morris.power -/
abbrev n_morris_power : FuncId := 160
def c_morris_power : C := (.seq (.reg false [⟨(some 6), .mv (.d (.bool false)), none, []⟩,
  ⟨(some 7), .mv (.d (.int .i64 0)), none, [0]⟩])
(.seq (.reg false [⟨(some 8), .mv (.t 0), none, []⟩,
  ⟨(some 9), .mv (.t 1), none, []⟩,
  ⟨(some 10), .conv .u64 (.t 9), none, [1]⟩,
  ⟨(some 11), .bsl 80 1 1 [(.int .u64 0)] [(0, 1, (.t 10))], none, [2]⟩,
  ⟨(some 12), .call 111 [(.t 11)], none, [3]⟩,
  ⟨(some 13), .mv (.t 1), none, []⟩,
  ⟨(some 14), .bin .add (.t 13) (.d (.int .i64 1)), none, [5]⟩,
  ⟨(some 15), .conv .u64 (.t 14), none, [6]⟩,
  ⟨(some 16), .bsl 80 1 1 [(.int .u64 0)] [(0, 1, (.t 15))], none, [7]⟩,
  ⟨(some 17), .call 111 [(.t 16)], none, [8, 4]⟩,
  ⟨(some 18), .mv (.t 2), none, []⟩,
  ⟨(some 19), .call 166 [(.t 8), (.t 12), (.t 17), (.t 18)], none, [0, 4, 9, 10, 9]⟩,
  ⟨(some 20), .ext (.t 19) 0, none, [11]⟩,
  ⟨(some 21), .ext (.t 19) 1, none, [11]⟩,
  ⟨(some 6), .mv (.t 20), none, [12, 11, 0, 1, 2, 3, 4, 5, 6, 7, 8, 9, 10, 11, 12, 13]⟩,
  ⟨(some 7), .mv (.t 21), none, [13, 14, 0, 1, 2, 3, 4, 5, 6, 7, 8, 9, 10, 11, 12, 13, 14]⟩])
.ret))
theorem r_morris_power : fnOf Tryz.prog n_morris_power = some (c_morris_power, [.t 6, .t 7], 22, false) := by kernel_rfl

/-- tallymark/flip.Power -/
abbrev n_flip_Power : FuncId := 166
def c_flip_Power : C := (.seq (.reg false [⟨(some 5), .box 91 (.t 1), none, []⟩,
  ⟨(some 6), .box 91 (.t 2), none, []⟩,
  ⟨(some 8), .mv (.d (.bool false)), none, []⟩,
  ⟨(some 9), .mv (.d (.int .i64 0)), none, [2]⟩])
(.seq (.seq (.reg false [⟨(some 12), .load true 1 (.t 5), none, []⟩,
  ⟨(some 13), .load true 1 (.t 6), none, []⟩,
  ⟨(some 14), .call 174 [(.t 12), (.t 13)], none, [0, 1]⟩,
  ⟨(some 15), .un .not (.t 14), none, [2]⟩])
(.cond (.t 15)
 (.seq (.reg false [⟨(some 8), .mv (.d (.bool false)), none, []⟩,
   ⟨(some 9), .mv (.d (.int .i64 2)), none, [0, 0]⟩])
 .ret)
 .skip))
(.seq (.seq (.reg false [⟨(some 16), .mv (.t 3), none, []⟩,
  ⟨(some 17), .mm true [(.d (.int .i64 0)), (.t 16)], none, [0]⟩,
  ⟨(some 18), .mv (.d (.int .i64 0)), none, []⟩])
(.block 0 (.loop (.seq (.reg false [⟨(some 19), .bin .lss (.t 18) (.t 17), none, []⟩])
(.seq (.cond (.t 19)
 .skip
 (.exit 0))
(.seq (.block 1 (.seq (.reg false [⟨(some 21), .mv (.t 0), none, []⟩,
  ⟨(some 22), .load true 1 (.t 5), none, []⟩,
  ⟨(some 23), .load true 1 (.t 6), none, []⟩,
  ⟨(some 24), .call 175 [(.t 21), (.t 22), (.t 23)], none, [0, 1, 2]⟩,
  ⟨(some 20), .mv (.t 24), none, [3]⟩,
  ⟨(some 25), .ext (.t 20) 0, none, [4]⟩,
  ⟨(some 26), .ext (.t 20) 1, none, [4]⟩,
  ⟨(some 10), .mv (.t 25), none, [5, 3, 0, 1, 2, 3, 4, 5]⟩,
  ⟨(some 11), .mv (.t 26), none, [6, 7, 0, 1, 2, 3, 4, 5, 6, 7]⟩])
(.seq (.reg false [⟨(some 27), .mv (.t 10), none, []⟩,
  ⟨(some 28), .un .not (.t 27), none, [0]⟩])
(.cond (.t 28)
 (.seq (.reg false [⟨(some 29), .mv (.t 11), none, []⟩,
   ⟨(some 8), .mv (.d (.bool false)), none, []⟩,
   ⟨(some 9), .mv (.t 29), none, [0, 1, 0, 1]⟩])
 .ret)
 .skip))))
(.reg false [⟨(some 30), .bin .add (.t 18) (.d (.int .i64 1)), none, []⟩,
  ⟨(some 18), .mv (.t 30), none, [0]⟩])))))))
(.seq (.reg false [⟨(some 8), .mv (.d (.bool true)), none, []⟩,
  ⟨(some 9), .mv (.d (.int .i64 0)), none, [0, 0]⟩])
.ret))))
theorem r_flip_Power : fnOf Tryz.prog n_flip_Power = some (c_flip_Power, [.t 8, .t 9], 31, false) := by kernel_rfl

/-- tallymark/flip.good -/
abbrev n_flip_good : FuncId := 174
def c_flip_good : C := (.seq (.reg false [⟨(some 2), .box 91 (.t 0), none, []⟩,
  ⟨(some 3), .box 91 (.t 1), none, []⟩,
  ⟨(some 4), .mv (.d (.bool false)), none, []⟩])
(.seq (.reg false [⟨(some 5), .load true 1 (.t 3), none, []⟩,
  ⟨(some 6), .call 122 [(.t 5)], none, [0]⟩,
  ⟨(some 7), .un .not (.t 6), none, [1]⟩,
  ⟨(some 8), .mv (.t 7), none, [2, 1]⟩,
  ⟨(some 9), .load true 1 (.t 2), some (8, true), [3]⟩,
  ⟨(some 10), .load true 1 (.t 3), some (8, true), [3]⟩,
  ⟨(some 11), .call 113 [(.t 9), (.t 10)], some (8, true), [4, 5, 3, 3]⟩,
  ⟨(some 12), .bin .leq (.t 11) (.d (.int .i64 0)), some (8, true), [6, 3]⟩,
  ⟨(some 13), .pick (.t 8) (.t 12) (.d (.bool false)), none, [3, 7]⟩,
  ⟨(some 4), .mv (.t 13), none, [8, 6, 0, 1, 2, 3, 4, 5, 6, 7, 8]⟩])
.ret))
theorem r_flip_good : fnOf Tryz.prog n_flip_good = some (c_flip_good, [.t 4], 14, false) := by kernel_rfl

/-- tallymark/flip.Ratio -/
abbrev n_flip_Ratio : FuncId := 175
def c_flip_Ratio : C := (.seq (.reg false [⟨(some 4), .box 91 (.t 1), none, []⟩,
  ⟨(some 5), .box 91 (.t 2), none, []⟩,
  ⟨(some 6), .mv (.d (.bool false)), none, []⟩,
  ⟨(some 7), .mv (.d (.int .i64 0)), none, [2]⟩])
(.seq (.block 0 (.seq (.reg false [⟨(some 15), .load true 1 (.t 4), none, []⟩,
  ⟨(some 16), .load true 1 (.t 5), none, []⟩,
  ⟨(some 17), .call 174 [(.t 15), (.t 16)], none, [0, 1]⟩,
  ⟨(some 18), .un .not (.t 17), none, [2]⟩,
  ⟨(some 14), .mv (.t 18), none, [3, 2]⟩])
(.cond (.t 14)
 (.seq (.reg false [⟨(some 6), .mv (.d (.bool false)), none, []⟩,
   ⟨(some 7), .mv (.d (.int .i64 2)), none, [0, 0]⟩])
 .ret)
 (.seq (.reg false [⟨(some 20), .load true 1 (.t 4), none, []⟩,
   ⟨(some 21), .call 122 [(.t 20)], none, [0]⟩,
   ⟨(some 19), .mv (.t 21), none, [1, 1]⟩])
 (.cond (.t 19)
  (.seq (.reg false [⟨(some 6), .mv (.d (.bool false)), none, []⟩,
    ⟨(some 7), .mv (.d (.int .i64 0)), none, [0, 0]⟩])
  .ret)
  .skip)))))
(.seq (.seq (.reg false [⟨(some 22), .load true 1 (.t 4), none, []⟩,
  ⟨(some 8), .new 91 [.nilsl], none, []⟩,
  ⟨none, .store 1 (.t 8) (.t 22), none, [1, 0, 0, 1]⟩])
(.block 1 (.loop (.seq (.seq (.reg false [⟨(some 23), .load true 1 (.t 8), none, []⟩,
  ⟨(some 24), .load true 1 (.t 5), none, []⟩,
  ⟨(some 25), .call 113 [(.t 23), (.t 24)], none, [0, 1]⟩,
  ⟨(some 26), .bin .lss (.t 25) (.d (.int .i64 0)), none, [2]⟩])
(.cond (.t 26)
 .skip
 (.exit 1)))
(.seq (.block 2 (.seq (.reg false [⟨(some 28), .mv (.t 0), none, []⟩,
  ⟨(some 29), .call 127 [(.t 28)], none, [0]⟩,
  ⟨(some 27), .mv (.t 29), none, [1]⟩,
  ⟨(some 30), .ext (.t 27) 0, none, [2]⟩,
  ⟨(some 31), .ext (.t 27) 1, none, [2]⟩,
  ⟨(some 9), .mv (.t 30), none, [3, 1, 0, 1, 2, 3]⟩,
  ⟨(some 10), .mv (.t 31), none, [4, 5, 0, 1, 2, 3, 4, 5]⟩])
(.seq (.seq (.reg false [⟨(some 32), .mv (.t 10), none, []⟩,
  ⟨(some 33), .bin .neq (.t 32) (.d (.int .i64 0)), none, [0]⟩])
(.cond (.t 33)
 (.seq (.reg false [⟨(some 34), .mv (.t 10), none, []⟩,
   ⟨(some 6), .mv (.d (.bool false)), none, []⟩,
   ⟨(some 7), .mv (.t 34), none, [0, 1, 0, 1]⟩])
 .ret)
 .skip))
(.seq (.reg false [⟨(some 35), .load true 1 (.t 8), none, []⟩,
  ⟨(some 36), .load true 1 (.t 8), none, []⟩,
  ⟨(some 37), .call 124 [(.t 35), (.t 36)], none, [0, 1]⟩,
  ⟨none, .store 1 (.t 8) (.t 37), none, [2, 2, 0, 1, 2]⟩])
(.seq (.reg false [⟨(some 39), .load true 1 (.t 8), none, []⟩,
  ⟨(some 40), .load true 1 (.t 5), none, []⟩,
  ⟨(some 41), .call 178 [(.t 39), (.t 40)], none, [0, 1]⟩,
  ⟨(some 38), .mv (.t 41), none, [2]⟩,
  ⟨(some 42), .ext (.t 38) 0, none, [3]⟩,
  ⟨(some 43), .ext (.t 38) 1, none, [3]⟩,
  ⟨(some 11), .new 91 [.nilsl], none, []⟩,
  ⟨none, .store 1 (.t 11) (.t 42), none, [6, 4, 2, 0, 1, 2, 3, 4, 6]⟩,
  ⟨(some 12), .mv (.t 43), none, [5, 7, 0, 1, 2, 3, 4, 5, 6, 7]⟩])
(.seq (.reg false [⟨(some 44), .mv (.t 12), none, []⟩,
  ⟨(some 45), .bin .eql (.t 44) (.d (.int .i64 0)), none, [0]⟩,
  ⟨(some 13), .mv (.t 45), none, [1, 0, 1]⟩])
(.seq (.seq (.reg false [⟨(some 46), .mv (.t 13), none, []⟩])
(.cond (.t 46)
 (.reg false [⟨(some 47), .load true 1 (.t 11), none, []⟩,
   ⟨none, .store 1 (.t 8) (.t 47), none, [0, 0]⟩])
 .skip))
(.seq (.reg false [⟨(some 48), .mv (.t 9), none, []⟩,
  ⟨(some 49), .mv (.t 13), none, []⟩,
  ⟨(some 50), .beq true (.t 48) (.t 49), none, [0, 1]⟩,
  ⟨(some 51), .mv (.t 50), none, [2]⟩,
  ⟨(some 52), .load true 1 (.t 8), some (51, false), [3]⟩,
  ⟨(some 53), .call 122 [(.t 52)], some (51, false), [4, 3, 3]⟩,
  ⟨(some 54), .pick (.t 51) (.d (.bool true)) (.t 53), none, [3, 5]⟩])
(.cond (.t 54)
 (.seq (.reg false [⟨(some 55), .mv (.t 13), none, []⟩,
   ⟨(some 56), .mv (.t 55), none, [0]⟩,
   ⟨(some 57), .mv (.t 9), some (56, true), [1]⟩,
   ⟨(some 58), .un .not (.t 57), some (56, true), [2, 1]⟩,
   ⟨(some 59), .pick (.t 56) (.t 58) (.d (.bool false)), none, [1, 3]⟩,
   ⟨(some 6), .mv (.t 59), none, [4, 1, 0, 1, 2, 3, 4]⟩,
   ⟨(some 7), .mv (.d (.int .i64 0)), none, [5, 0, 1, 2, 3, 4, 5]⟩])
 .ret)
 .skip)))))))))
(.seq (.reg false [⟨(some 60), .load true 1 (.t 8), none, []⟩])
(.reg false [⟨(some 8), .new 91 [.nilsl], none, []⟩,
  ⟨none, .store 1 (.t 8) (.t 60), none, [0, 0]⟩])))))))
(.seq (.reg false [⟨(some 6), .mv (.d (.bool true)), none, []⟩,
  ⟨(some 7), .mv (.d (.int .i64 0)), none, [0, 0]⟩])
.ret))))
theorem r_flip_Ratio : fnOf Tryz.prog n_flip_Ratio = some (c_flip_Ratio, [.t 6, .t 7], 61, false) := by kernel_rfl

/-- tallymark/nat.Sub -/
abbrev n_nat_Sub : FuncId := 178
def c_nat_Sub : C := (.seq (.reg false [⟨(some 2), .box 91 (.t 0), none, []⟩,
  ⟨(some 3), .box 91 (.t 1), none, []⟩,
  ⟨(some 4), .new 91 [.nilsl], none, []⟩,
  ⟨(some 5), .mv (.d (.int .i64 0)), none, []⟩])
(.seq (.seq (.reg false [⟨(some 11), .load true 1 (.t 2), none, []⟩,
  ⟨(some 12), .load true 1 (.t 3), none, []⟩,
  ⟨(some 13), .call 113 [(.t 11), (.t 12)], none, [0, 1]⟩,
  ⟨(some 14), .bin .lss (.t 13) (.d (.int .i64 0)), none, [2]⟩])
(.cond (.t 14)
 (.seq (.reg false [⟨(some 15), .build [.nilsl] [], none, []⟩,
   ⟨none, .store 1 (.t 4) (.t 15), none, [0, 0]⟩,
   ⟨(some 5), .mv (.d (.int .i64 2)), none, [1, 0, 1]⟩])
 .ret)
 .skip))
(.seq (.reg false [⟨(some 16), .fa 0 (.t 2), none, []⟩,
  ⟨(some 17), .load false 1 (.t 16), none, [0]⟩,
  ⟨(some 18), .len (.t 17), none, [1]⟩,
  ⟨(some 19), .mksl 80 1 8 [(.int .u64 0)] (.t 18) (.t 18), none, [2, 2]⟩,
  ⟨(some 6), .mv (.t 19), none, [3, 0, 1, 2, 3]⟩])
(.seq (.reg false [⟨(some 7), .mv (.d (.int .u64 0)), none, []⟩])
(.seq (.seq (.reg false [⟨(some 20), .fa 0 (.t 2), none, []⟩,
  ⟨(some 21), .load false 1 (.t 20), none, [0]⟩,
  ⟨(some 22), .len (.t 21), none, [1]⟩,
  ⟨(some 23), .mv (.d (.int .i64 0)), none, []⟩])
(.block 0 (.loop (.seq (.reg false [⟨(some 24), .bin .lss (.t 23) (.t 22), none, []⟩])
(.seq (.cond (.t 24)
 .skip
 (.exit 0))
(.seq (.block 1 (.seq (.reg false [⟨(some 25), .mv (.t 23), none, []⟩,
  ⟨(some 26), .ix 1 (.t 21) (.t 23), none, []⟩,
  ⟨(some 27), .load false 1 (.t 26), none, [1]⟩,
  ⟨(some 8), .mv (.t 25), none, [0, 0, 1, 2]⟩,
  ⟨(some 9), .mv (.t 27), none, [2, 3, 0, 1, 2, 3]⟩])
(.seq (.reg false [⟨(some 10), .mv (.d (.int .u64 0)), none, []⟩])
(.seq (.seq (.reg false [⟨(some 28), .mv (.t 8), none, []⟩,
  ⟨(some 29), .fa 0 (.t 3), none, []⟩,
  ⟨(some 30), .load false 1 (.t 29), none, [1]⟩,
  ⟨(some 31), .len (.t 30), none, [2]⟩,
  ⟨(some 32), .bin .lss (.t 28) (.t 31), none, [0, 3]⟩])
(.cond (.t 32)
 (.reg false [⟨(some 33), .fa 0 (.t 3), none, []⟩,
   ⟨(some 34), .load false 1 (.t 33), none, [0]⟩,
   ⟨(some 35), .mv (.t 8), none, []⟩,
   ⟨(some 36), .ix 1 (.t 34) (.t 35), none, [1, 2]⟩,
   ⟨(some 37), .load false 1 (.t 36), none, [3]⟩,
   ⟨(some 10), .mv (.t 37), none, [4, 0, 1, 2, 3, 4]⟩])
 .skip))
(.reg false [⟨(some 39), .mv (.t 6), none, []⟩,
  ⟨(some 40), .mv (.t 8), none, []⟩,
  ⟨(some 41), .mv (.t 9), none, []⟩,
  ⟨(some 42), .mv (.t 10), none, []⟩,
  ⟨(some 43), .mv (.t 7), none, []⟩,
  ⟨(some 44), .call 182 [(.t 41), (.t 42), (.t 43)], none, [2, 3, 4]⟩,
  ⟨(some 38), .mv (.t 44), none, [5]⟩,
  ⟨(some 45), .ext (.t 38) 0, none, [6]⟩,
  ⟨(some 46), .ext (.t 38) 1, none, [6]⟩,
  ⟨(some 47), .ix 1 (.t 39) (.t 40), none, [0, 1, 0, 1, 2, 3, 4, 5, 6, 7]⟩,
  ⟨none, .store 1 (.t 47) (.t 45), none, [9, 7, 5, 0, 1, 2, 3, 4, 5, 6, 7]⟩,
  ⟨(some 7), .mv (.t 46), none, [8, 10, 0, 1, 2, 3, 4, 5, 6, 7, 8, 9, 10]⟩])))))
(.reg false [⟨(some 48), .bin .add (.t 23) (.d (.int .i64 1)), none, []⟩,
  ⟨(some 23), .mv (.t 48), none, [0]⟩])))))))
(.seq (.reg false [⟨(some 49), .mv (.t 6), none, []⟩,
  ⟨(some 50), .call 120 [(.t 49)], none, [0]⟩,
  ⟨none, .store 1 (.t 4) (.t 50), none, [1, 1, 0, 1]⟩,
  ⟨(some 5), .mv (.d (.int .i64 0)), none, [2, 0, 1, 2]⟩])
.ret))))))
theorem r_nat_Sub : fnOf Tryz.prog n_nat_Sub = some (c_nat_Sub, [.cell 4 true 1, .t 5], 51, false) := by kernel_rfl

/-- tallymark/nat.Shr -/
abbrev n_nat_Shr : FuncId := 186
def c_nat_Shr : C := (.seq (.reg false [⟨(some 2), .box 91 (.t 0), none, []⟩,
  ⟨(some 4), .new 91 [.nilsl], none, []⟩])
(.seq (.reg false [⟨(some 8), .mv (.t 1), none, []⟩,
  ⟨(some 9), .mm true [(.d (.int .i64 0)), (.t 8)], none, [0]⟩,
  ⟨(some 1), .mv (.t 9), none, [1, 0, 1]⟩])
(.seq (.seq (.reg false [⟨(some 10), .mv (.t 1), none, []⟩,
  ⟨(some 11), .bin .quo (.t 10) (.d (.int .i64 64)), none, [0]⟩,
  ⟨(some 12), .fa 0 (.t 2), none, []⟩,
  ⟨(some 13), .load false 1 (.t 12), none, [2]⟩,
  ⟨(some 14), .len (.t 13), none, [3]⟩,
  ⟨(some 15), .bin .geq (.t 11) (.t 14), none, [1, 4]⟩])
(.cond (.t 15)
 (.seq (.reg false [⟨(some 16), .build [.nilsl] [], none, []⟩,
   ⟨none, .store 1 (.t 4) (.t 16), none, [0, 0]⟩])
 .ret)
 .skip))
(.seq (.reg false [⟨(some 17), .fa 0 (.t 2), none, []⟩,
  ⟨(some 18), .load false 1 (.t 17), none, [0]⟩,
  ⟨(some 19), .mv (.t 1), none, []⟩,
  ⟨(some 20), .bin .quo (.t 19) (.d (.int .i64 64)), none, [2]⟩,
  ⟨(some 21), .slice 1 (.t 18) (some (.t 20)) none none, none, [1, 3]⟩,
  ⟨(some 22), .call 105 [(.t 21)], none, [4]⟩,
  ⟨(some 5), .mv (.t 22), none, [5, 5, 0, 1, 2, 3, 4, 5]⟩])
(.seq (.seq (.reg false [⟨(some 23), .mv (.t 1), none, []⟩,
  ⟨(some 24), .bin .rem (.t 23) (.d (.int .i64 64)), none, [0]⟩,
  ⟨(some 6), .mv (.d (.int .i64 0)), none, []⟩,
  ⟨(some 7), .mv (.t 24), none, [1, 2, 0, 1, 2]⟩])
(.block 0 (.loop (.seq (.seq (.reg false [⟨(some 25), .mv (.t 6), none, []⟩,
  ⟨(some 26), .mv (.t 5), none, []⟩,
  ⟨(some 27), .len (.t 26), none, [1]⟩,
  ⟨(some 28), .bin .lss (.t 25) (.t 27), none, [0, 2]⟩])
(.cond (.t 28)
 .skip
 (.exit 0)))
(.seq (.block 1 (.seq (.reg false [⟨(some 31), .mv (.t 5), none, []⟩,
  ⟨(some 32), .mv (.t 6), none, []⟩,
  ⟨(some 33), .ix 1 (.t 31) (.t 32), none, [0, 1]⟩,
  ⟨(some 34), .load false 1 (.t 33), none, [2]⟩,
  ⟨(some 35), .mv (.t 7), none, []⟩,
  ⟨(some 36), .bin .shr (.t 34) (.t 35), none, [3, 4]⟩,
  ⟨(some 37), .ix 1 (.t 31) (.t 32), none, [0, 1, 0, 1, 2, 3, 4, 5]⟩,
  ⟨none, .store 1 (.t 37) (.t 36), none, [6, 5, 0, 1, 2, 3, 4, 5]⟩])
(.seq (.reg false [⟨(some 38), .mv (.t 6), none, []⟩,
  ⟨(some 39), .bin .add (.t 38) (.d (.int .i64 1)), none, [0]⟩,
  ⟨(some 40), .mv (.t 5), none, []⟩,
  ⟨(some 41), .len (.t 40), none, [2]⟩,
  ⟨(some 42), .bin .lss (.t 39) (.t 41), none, [1, 3]⟩])
(.cond (.t 42)
 (.reg true [⟨(some 43), .mv (.t 5), none, []⟩,
   ⟨(some 44), .mv (.t 6), none, []⟩,
   ⟨(some 45), .ix 1 (.t 43) (.t 44), none, [0, 1]⟩,
   ⟨(some 46), .load false 1 (.t 45), none, [2]⟩,
   ⟨(some 47), .mv (.t 5), none, []⟩,
   ⟨(some 48), .mv (.t 6), none, []⟩,
   ⟨(some 49), .bin .add (.t 48) (.d (.int .i64 1)), none, [5]⟩,
   ⟨(some 50), .ix 1 (.t 47) (.t 49), none, [4, 6]⟩,
   ⟨(some 51), .load false 1 (.t 50), none, [7]⟩,
   ⟨(some 52), .mv (.t 7), none, []⟩,
   ⟨(some 53), .bin .sub (.d (.int .i64 64)) (.t 52), none, [9]⟩,
   ⟨(some 54), .bin .shl (.t 51) (.t 53), none, [8, 10]⟩,
   ⟨(some 55), .bin .or (.t 46) (.t 54), none, [3, 11]⟩,
   ⟨(some 56), .ix 1 (.t 43) (.t 44), none, [0, 1, 0, 1, 2, 3, 4, 5, 6, 7, 8, 9, 10, 11, 12]⟩,
   ⟨none, .store 1 (.t 56) (.t 55), none, [13, 12, 0, 1, 2, 3, 4, 5, 6, 7, 8, 9, 10, 11, 12]⟩])
 .skip))))
(.reg false [⟨(some 29), .mv (.t 6), none, []⟩,
  ⟨(some 30), .bin .add (.t 29) (.d (.int .i64 1)), none, [0]⟩,
  ⟨(some 6), .mv (.t 30), none, [1, 0, 1]⟩]))))))
(.seq (.reg false [⟨(some 57), .mv (.t 5), none, []⟩,
  ⟨(some 58), .call 120 [(.t 57)], none, [0]⟩,
  ⟨none, .store 1 (.t 4) (.t 58), none, [1, 1, 0, 1]⟩])
.ret))))))
theorem r_nat_Shr : fnOf Tryz.prog n_nat_Shr = some (c_nat_Shr, [.cell 4 true 1], 59, false) := by kernel_rfl

/-- (tallymark/chain.aFloat).good -/
abbrev n_chain_aFloat_good : FuncId := 190
def c_chain_aFloat_good : C := (.seq (.reg false [⟨(some 2), .mv (.d (.bool false)), none, []⟩])
(.seq (.reg false [⟨(some 3), .mv (.t 0), none, []⟩,
  ⟨(some 4), .call 195 [(.t 3)], none, [0]⟩,
  ⟨(some 2), .mv (.t 4), none, [1, 1, 0, 1]⟩])
.ret))
theorem r_chain_aFloat_good : fnOf Tryz.prog n_chain_aFloat_good = some (c_chain_aFloat_good, [.t 2], 5, false) := by kernel_rfl

/-- (tallymark/chain.aFloat).step -/
abbrev n_chain_aFloat_step : FuncId := 192
def c_chain_aFloat_step : C := (.seq (.reg false [⟨(some 6), .mv (.d (.bool false)), none, []⟩,
  ⟨(some 7), .mv (.d (.int .i64 0)), none, [0]⟩])
(.seq (.reg false [⟨(some 8), .mv (.t 1), none, []⟩,
  ⟨(some 9), .mv (.t 0), none, []⟩,
  ⟨(some 10), .mv (.t 2), none, []⟩,
  ⟨(some 11), .call 196 [(.t 8), (.t 9), (.t 10)], none, [0, 1, 2]⟩,
  ⟨(some 12), .ext (.t 11) 0, none, [3]⟩,
  ⟨(some 13), .ext (.t 11) 1, none, [3]⟩,
  ⟨(some 6), .mv (.t 12), none, [4, 3, 0, 1, 2, 3, 4, 5]⟩,
  ⟨(some 7), .mv (.t 13), none, [5, 6, 0, 1, 2, 3, 4, 5, 6]⟩])
.ret))
theorem r_chain_aFloat_step : fnOf Tryz.prog n_chain_aFloat_step = some (c_chain_aFloat_step, [.t 6, .t 7], 14, false) := by kernel_rfl

/-- tallymark/float.Good -/
abbrev n_float_Good : FuncId := 195
def c_float_Good : C := (.seq (.reg false [⟨(some 2), .mv (.d (.bool false)), none, []⟩])
(.seq (.reg false [⟨(some 3), .mv (.t 0), none, []⟩,
  ⟨(some 4), .bin .geq (.t 3) (.d (.int .i64 0)), none, [0]⟩,
  ⟨(some 5), .mv (.t 4), none, [1]⟩,
  ⟨(some 6), .mv (.t 0), some (5, true), [2]⟩,
  ⟨(some 7), .bin .leq (.t 6) (.d (.int .i64 8)), some (5, true), [3, 2]⟩,
  ⟨(some 8), .pick (.t 5) (.t 7) (.d (.bool false)), none, [2, 4]⟩,
  ⟨(some 2), .mv (.t 8), none, [5, 2, 0, 1, 2, 3, 4, 5]⟩])
.ret))
theorem r_float_Good : fnOf Tryz.prog n_float_Good = some (c_float_Good, [.t 2], 9, false) := by kernel_rfl

/-- tallymark/float.Step -/
abbrev n_float_Step : FuncId := 196
def c_float_Step : C := (.seq (.reg false [⟨(some 6), .mv (.d (.bool false)), none, []⟩,
  ⟨(some 7), .mv (.d (.int .i64 0)), none, [0]⟩])
(.seq (.seq (.reg false [⟨(some 11), .mv (.t 1), none, []⟩,
  ⟨(some 12), .mv (.t 2), none, []⟩,
  ⟨(some 13), .bsl 3 1 1 [(.int .i64 0)] [(0, 1, (.t 12))], none, [1]⟩,
  ⟨(some 14), .call 198 [(.t 11), (.t 13)], none, [0, 2]⟩,
  ⟨(some 8), .mv (.t 14), none, [3, 3, 0, 1, 2, 3]⟩])
(.seq (.reg false [⟨(some 15), .mv (.t 8), none, []⟩,
  ⟨(some 16), .bin .neq (.t 15) (.d (.int .i64 0)), none, [0]⟩])
(.cond (.t 16)
 (.seq (.reg false [⟨(some 17), .mv (.t 8), none, []⟩,
   ⟨(some 6), .mv (.d (.bool false)), none, []⟩,
   ⟨(some 7), .mv (.t 17), none, [0, 1, 0, 1]⟩])
 .ret)
 .skip)))
(.seq (.reg false [⟨(some 19), .mv (.t 1), none, []⟩,
  ⟨(some 20), .mv (.t 2), none, []⟩,
  ⟨(some 21), .call 199 [(.t 19), (.t 20)], none, [0, 1]⟩,
  ⟨(some 18), .mv (.t 21), none, [2]⟩,
  ⟨(some 22), .ext (.t 18) 0, none, [3]⟩,
  ⟨(some 23), .ext (.t 18) 1, none, [3]⟩,
  ⟨(some 9), .mv (.t 22), none, [4, 2, 0, 1, 2, 3, 4]⟩,
  ⟨(some 10), .mv (.t 23), none, [5, 6, 0, 1, 2, 3, 4, 5, 6]⟩])
(.seq (.reg false [⟨(some 24), .mv (.t 0), none, []⟩,
  ⟨(some 25), .mv (.t 9), none, []⟩,
  ⟨(some 26), .call 117 [(.t 24), (.t 25)], none, [0, 1]⟩,
  ⟨(some 27), .ext (.t 26) 0, none, [2]⟩,
  ⟨(some 28), .ext (.t 26) 1, none, [2]⟩,
  ⟨(some 6), .mv (.t 27), none, [3, 2, 0, 1, 2, 3, 4]⟩,
  ⟨(some 7), .mv (.t 28), none, [4, 5, 0, 1, 2, 3, 4, 5]⟩])
.ret))))
theorem r_float_Step : fnOf Tryz.prog n_float_Step = some (c_float_Step, [.t 6, .t 7], 29, false) := by kernel_rfl

/-- tallymark/float.wrong -/
abbrev n_float_wrong : FuncId := 198
def c_float_wrong : C := (.seq (.reg false [⟨(some 4), .mv (.d (.int .i64 0)), none, []⟩])
(.seq (.seq (.reg false [⟨(some 7), .mv (.t 0), none, []⟩,
  ⟨(some 8), .call 195 [(.t 7)], none, [0]⟩,
  ⟨(some 9), .un .not (.t 8), none, [1]⟩])
(.cond (.t 9)
 (.seq (.reg false [⟨(some 4), .mv (.d (.int .i64 10)), none, []⟩])
 .ret)
 .skip))
(.seq (.seq (.reg false [⟨(some 10), .mv (.t 1), none, []⟩,
  ⟨(some 11), .len (.t 10), none, [0]⟩,
  ⟨(some 12), .mv (.d (.int .i64 0)), none, []⟩])
(.block 0 (.loop (.seq (.reg false [⟨(some 13), .bin .lss (.t 12) (.t 11), none, []⟩])
(.seq (.cond (.t 13)
 .skip
 (.exit 0))
(.seq (.block 1 (.seq (.reg false [⟨(some 14), .ix 1 (.t 10) (.t 12), none, []⟩,
  ⟨(some 15), .load false 1 (.t 14), none, [0]⟩,
  ⟨(some 6), .mv (.t 15), none, [1, 0, 1]⟩])
(.seq (.reg false [⟨(some 16), .mv (.t 6), none, []⟩,
  ⟨(some 17), .bin .lss (.t 16) (.d (.int .i64 0)), none, [0]⟩,
  ⟨(some 18), .mv (.t 17), none, [1]⟩,
  ⟨(some 19), .mv (.t 6), some (18, false), [2]⟩,
  ⟨(some 20), .bin .gtr (.t 19) (.d (.int .i64 1023)), some (18, false), [3, 2]⟩,
  ⟨(some 21), .pick (.t 18) (.d (.bool true)) (.t 20), none, [2, 4]⟩])
(.cond (.t 21)
 (.seq (.reg false [⟨(some 4), .mv (.d (.int .i64 2)), none, []⟩])
 .ret)
 .skip))))
(.reg false [⟨(some 22), .bin .add (.t 12) (.d (.int .i64 1)), none, []⟩,
  ⟨(some 12), .mv (.t 22), none, [0]⟩])))))))
(.seq (.reg false [⟨(some 4), .mv (.d (.int .i64 0)), none, []⟩])
.ret))))
theorem r_float_wrong : fnOf Tryz.prog n_float_wrong = some (c_float_wrong, [.t 4], 23, false) := by kernel_rfl

/-- tallymark/float.parts -/
abbrev n_float_parts : FuncId := 199
def c_float_parts : C := (.seq (.reg false [⟨(some 4), .mv (.d (.int .i64 0)), none, []⟩,
  ⟨(some 5), .mv (.d (.int .i64 0)), none, [0]⟩])
(.seq (.reg true [⟨(some 6), .mv (.t 1), none, []⟩,
  ⟨(some 7), .mv (.t 0), none, []⟩,
  ⟨(some 8), .bin .shr (.t 6) (.t 7), none, [0, 1]⟩,
  ⟨(some 9), .mv (.t 1), none, []⟩,
  ⟨(some 10), .mv (.t 0), none, []⟩,
  ⟨(some 11), .bin .shl (.d (.int .i64 1)) (.t 10), none, [4]⟩,
  ⟨(some 12), .bin .sub (.t 11) (.d (.int .i64 1)), none, [5]⟩,
  ⟨(some 13), .bin .and (.t 9) (.t 12), none, [3, 6]⟩,
  ⟨(some 4), .mv (.t 8), none, [2, 0, 1, 2]⟩,
  ⟨(some 5), .mv (.t 13), none, [7, 8, 0, 1, 2, 3, 4, 5, 6, 7, 8]⟩])
.ret))
theorem r_float_parts : fnOf Tryz.prog n_float_parts = some (c_float_parts, [.t 4, .t 5], 14, false) := by kernel_rfl

/-- (tallymark/chain.aYu).good -/
abbrev n_chain_aYu_good : FuncId := 202
def c_chain_aYu_good : C := (.seq (.reg false [⟨(some 2), .mv (.d (.bool false)), none, []⟩])
(.seq (.reg false [⟨(some 3), .mv (.t 0), none, []⟩,
  ⟨(some 4), .call 207 [(.t 3)], none, [0]⟩,
  ⟨(some 2), .mv (.t 4), none, [1, 1, 0, 1]⟩])
.ret))
theorem r_chain_aYu_good : fnOf Tryz.prog n_chain_aYu_good = some (c_chain_aYu_good, [.t 2], 5, false) := by kernel_rfl

/-- (tallymark/chain.aYu).step -/
abbrev n_chain_aYu_step : FuncId := 204
def c_chain_aYu_step : C := (.seq (.reg false [⟨(some 6), .mv (.d (.bool false)), none, []⟩,
  ⟨(some 7), .mv (.d (.int .i64 0)), none, [0]⟩])
(.seq (.reg false [⟨(some 8), .mv (.t 1), none, []⟩,
  ⟨(some 9), .mv (.t 0), none, []⟩,
  ⟨(some 10), .mv (.t 2), none, []⟩,
  ⟨(some 11), .call 208 [(.t 8), (.t 9), (.t 10)], none, [0, 1, 2]⟩,
  ⟨(some 12), .ext (.t 11) 0, none, [3]⟩,
  ⟨(some 13), .ext (.t 11) 1, none, [3]⟩,
  ⟨(some 6), .mv (.t 12), none, [4, 3, 0, 1, 2, 3, 4, 5]⟩,
  ⟨(some 7), .mv (.t 13), none, [5, 6, 0, 1, 2, 3, 4, 5, 6]⟩])
.ret))
theorem r_chain_aYu_step : fnOf Tryz.prog n_chain_aYu_step = some (c_chain_aYu_step, [.t 6, .t 7], 14, false) := by kernel_rfl

/-- tallymark/yu.Good -/
abbrev n_yu_Good : FuncId := 207
def c_yu_Good : C := (.seq (.reg false [⟨(some 2), .mv (.d (.bool false)), none, []⟩])
(.seq (.reg false [⟨(some 3), .mv (.t 0), none, []⟩,
  ⟨(some 4), .bin .geq (.t 3) (.d (.int .i64 1)), none, [0]⟩,
  ⟨(some 5), .mv (.t 4), none, [1]⟩,
  ⟨(some 6), .mv (.t 0), some (5, true), [2]⟩,
  ⟨(some 7), .bin .leq (.t 6) (.d (.int .i64 5)), some (5, true), [3, 2]⟩,
  ⟨(some 8), .pick (.t 5) (.t 7) (.d (.bool false)), none, [2, 4]⟩,
  ⟨(some 2), .mv (.t 8), none, [5, 2, 0, 1, 2, 3, 4, 5]⟩])
.ret))
theorem r_yu_Good : fnOf Tryz.prog n_yu_Good = some (c_yu_Good, [.t 2], 9, false) := by kernel_rfl

/-- tallymark/yu.Step -/
abbrev n_yu_Step : FuncId := 208
def c_yu_Step : C := (.seq (.reg false [⟨(some 6), .mv (.d (.bool false)), none, []⟩,
  ⟨(some 7), .mv (.d (.int .i64 0)), none, [0]⟩])
(.seq (.reg false [⟨(some 11), .mv (.t 1), none, []⟩,
  ⟨(some 12), .mv (.t 2), none, []⟩,
  ⟨(some 13), .call 209 [(.t 11), (.t 12)], none, [0, 1]⟩,
  ⟨(some 10), .mv (.t 13), none, [2]⟩,
  ⟨(some 14), .ext (.t 10) 0, none, [3]⟩,
  ⟨(some 15), .ext (.t 10) 1, none, [3]⟩,
  ⟨(some 8), .new 259 [(.int .i64 0), (.int .i64 0), .nilsl, .nilsl], none, []⟩,
  ⟨none, .store 4 (.t 8) (.t 14), none, [6, 4, 2, 0, 1, 2, 3, 4, 6]⟩,
  ⟨(some 9), .mv (.t 15), none, [5, 7, 0, 1, 2, 3, 4, 5, 6, 7]⟩])
(.seq (.seq (.reg false [⟨(some 16), .mv (.t 9), none, []⟩,
  ⟨(some 17), .bin .neq (.t 16) (.d (.int .i64 0)), none, [0]⟩])
(.cond (.t 17)
 (.seq (.reg false [⟨(some 18), .mv (.t 9), none, []⟩,
   ⟨(some 6), .mv (.d (.bool false)), none, []⟩,
   ⟨(some 7), .mv (.t 18), none, [0, 1, 0, 1]⟩])
 .ret)
 .skip))
(.seq (.reg false [⟨(some 19), .mv (.t 0), none, []⟩,
  ⟨(some 20), .fa 1 (.t 8), none, []⟩,
  ⟨(some 21), .load false 1 (.t 20), none, [1]⟩,
  ⟨(some 22), .call 117 [(.t 19), (.t 21)], none, [0, 2]⟩,
  ⟨(some 23), .ext (.t 22) 0, none, [3]⟩,
  ⟨(some 24), .ext (.t 22) 1, none, [3]⟩,
  ⟨(some 6), .mv (.t 23), none, [4, 3, 0, 1, 2, 3, 4, 5]⟩,
  ⟨(some 7), .mv (.t 24), none, [5, 6, 0, 1, 2, 3, 4, 5, 6]⟩])
.ret))))
theorem r_yu_Step : fnOf Tryz.prog n_yu_Step = some (c_yu_Step, [.t 6, .t 7], 25, false) := by kernel_rfl

/-- tallymark/yu.At -/
abbrev n_yu_At : FuncId := 209
def c_yu_At : C := (.seq (.reg false [⟨(some 3), .box 3 (.t 1), none, []⟩,
  ⟨(some 4), .new 259 [(.int .i64 0), (.int .i64 0), .nilsl, .nilsl], none, []⟩,
  ⟨(some 5), .mv (.d (.int .i64 0)), none, []⟩])
(.seq (.block 0 (.seq (.reg false [⟨(some 10), .mv (.t 0), none, []⟩,
  ⟨(some 11), .call 207 [(.t 10)], none, [0]⟩,
  ⟨(some 12), .un .not (.t 11), none, [1]⟩,
  ⟨(some 9), .mv (.t 12), none, [2, 1]⟩])
(.cond (.t 9)
 (.seq (.reg false [⟨(some 13), .build [(.int .i64 0), (.int .i64 0), .nilsl, .nilsl] [], none, []⟩,
   ⟨none, .store 4 (.t 4) (.t 13), none, [0, 0]⟩,
   ⟨(some 5), .mv (.d (.int .i64 10)), none, [1, 0, 1]⟩])
 .ret)
 (.seq (.reg false [⟨(some 15), .load false 1 (.t 3), none, []⟩,
   ⟨(some 16), .bin .lss (.t 15) (.d (.int .i64 0)), none, [0]⟩,
   ⟨(some 17), .mv (.t 16), none, [1]⟩,
   ⟨(some 18), .load false 1 (.t 3), some (17, false), [2]⟩,
   ⟨(some 19), .bin .gtr (.t 18) (.d (.int .i64 1023)), some (17, false), [3, 2]⟩,
   ⟨(some 20), .pick (.t 17) (.d (.bool true)) (.t 19), none, [2, 4]⟩,
   ⟨(some 14), .mv (.t 20), none, [5, 2]⟩])
 (.cond (.t 14)
  (.seq (.reg false [⟨(some 21), .build [(.int .i64 0), (.int .i64 0), .nilsl, .nilsl] [], none, []⟩,
    ⟨none, .store 4 (.t 4) (.t 21), none, [0, 0]⟩,
    ⟨(some 5), .mv (.d (.int .i64 2)), none, [1, 0, 1]⟩])
  .ret)
  .skip)))))
(.seq (.reg false [⟨(some 6), .new 259 [(.int .i64 0), (.int .i64 0), .nilsl, .nilsl], none, []⟩])
(.seq (.seq (.reg false [⟨(some 22), .mv (.t 0), none, []⟩,
  ⟨(some 23), .call 210 [(.t 22)], none, [0]⟩])
(.block 1 .bad))
(.seq (.reg false [⟨(some 30), .load true 4 (.t 6), none, []⟩,
  ⟨none, .store 4 (.t 4) (.t 30), none, [0, 0]⟩,
  ⟨(some 5), .mv (.d (.int .i64 0)), none, [1, 0, 1]⟩])
.ret)))))
theorem r_yu_At : fnOf Tryz.prog n_yu_At = some (c_yu_At, [.cell 4 true 4, .t 5], 31, false) := by kernel_rfl

/-- tallymark/yu.walk -/
abbrev n_yu_walk : FuncId := 210
def c_yu_walk : C := (.seq (.reg false [⟨(some 1), .box 3 (.t 0), none, []⟩,
  ⟨(some 2), .mv (.d .nilfn), none, []⟩])
(.seq (.reg false [⟨(some 3), .mkf (.func 211) [(.t 1)], none, []⟩,
  ⟨(some 2), .mv (.t 3), none, [0, 0]⟩])
.ret))
theorem r_yu_walk : fnOf Tryz.prog n_yu_walk = some (c_yu_walk, [.t 2], 4, false) := by kernel_rfl

/-- tallymark/yu.walk$1 -/
abbrev n_yu_walk_1 : FuncId := 211
def c_yu_walk_1 : C := (.seq (.reg false [⟨(some 5), .load false 1 (.t 1), none, []⟩,
  ⟨(some 6), .bin .mul (.d (.int .i64 2)) (.t 5), none, [0]⟩,
  ⟨(some 7), .bin .shl (.d (.int .u64 1)) (.t 6), none, [1]⟩,
  ⟨(some 8), .bsl 80 1 1 [(.int .u64 0)] [(0, 1, (.t 7))], none, [2]⟩,
  ⟨(some 9), .call 111 [(.t 8)], none, [3]⟩,
  ⟨(some 10), .build [(.int .i64 0), (.int .i64 0), .nilsl, .nilsl] [(3, 1, (.t 9))], none, [4]⟩,
  ⟨(some 3), .new 259 [(.int .i64 0), (.int .i64 0), .nilsl, .nilsl], none, []⟩,
  ⟨none, .store 4 (.t 3) (.t 10), none, [6, 5, 4, 0, 1, 2, 3, 4, 5, 6]⟩])
(.seq (.reg false [⟨(some 4), .mv (.d (.int .i64 0)), none, []⟩])
(.block 0 (.loop (.seq (.seq (.reg false [⟨(some 11), .mv (.t 4), none, []⟩,
  ⟨(some 12), .bin .leq (.t 11) (.d (.int .i64 1023)), none, [0]⟩])
(.cond (.t 12)
 .skip
 (.exit 0)))
(.seq (.block 1 (.seq (.seq (.reg false [⟨(some 15), .mv (.t 0), none, []⟩,
  ⟨(some 16), .mv (.t 4), none, []⟩,
  ⟨(some 17), .load true 4 (.t 3), none, []⟩,
  ⟨(some 18), .callv (.t 15) [(.t 16), (.t 17)], none, [0, 1, 2]⟩,
  ⟨(some 19), .un .not (.t 18), none, [3]⟩])
(.cond (.t 19)
 .ret
 .skip))
(.reg false [⟨(some 20), .load true 4 (.t 3), none, []⟩,
  ⟨(some 21), .load false 1 (.t 1), none, []⟩,
  ⟨(some 22), .call 212 [(.t 20), (.t 21)], none, [0, 1]⟩,
  ⟨none, .store 4 (.t 3) (.t 22), none, [2, 2, 0, 1, 2]⟩])))
(.reg false [⟨(some 13), .mv (.t 4), none, []⟩,
  ⟨(some 14), .bin .add (.t 13) (.d (.int .i64 1)), none, [0]⟩,
  ⟨(some 4), .mv (.t 14), none, [1, 0, 1]⟩])))))))
/-- (tallymark/yu.Place).next -/
abbrev n_yu_Place_next : FuncId := 212
def c_yu_Place_next : C := (.seq (.reg false [⟨(some 2), .box 259 (.t 0), none, []⟩,
  ⟨(some 4), .new 259 [(.int .i64 0), (.int .i64 0), .nilsl, .nilsl], none, []⟩])
(.seq (.reg true [⟨(some 8), .bsl 80 1 1 [(.int .u64 0)] [(0, 1, (.d (.int .u64 1)))], none, []⟩,
  ⟨(some 9), .call 111 [(.t 8)], none, [0]⟩,
  ⟨(some 10), .fa 1 (.t 2), none, []⟩,
  ⟨(some 11), .load false 1 (.t 10), none, [2]⟩,
  ⟨(some 12), .call 110 [(.t 9), (.t 11)], none, [1, 3, 1]⟩,
  ⟨(some 7), .mv (.t 12), none, [4]⟩,
  ⟨(some 13), .ext (.t 7) 0, none, [5]⟩,
  ⟨(some 14), .ext (.t 7) 1, none, [5]⟩,
  ⟨(some 5), .new 91 [.nilsl], none, []⟩,
  ⟨none, .store 1 (.t 5) (.t 13), none, [8, 6, 4, 0, 1, 2, 3, 4, 5, 6, 8]⟩,
  ⟨(some 6), .mv (.t 14), none, [7, 9, 0, 1, 2, 3, 4, 5, 6, 7, 8, 9]⟩])
(.seq (.reg false [⟨(some 15), .fa 2 (.t 2), none, []⟩,
  ⟨(some 16), .load true 1 (.t 15), none, [0]⟩,
  ⟨(some 17), .load true 1 (.t 5), none, []⟩,
  ⟨(some 18), .call 124 [(.t 16), (.t 17)], none, [1, 2]⟩,
  ⟨(some 19), .fa 2 (.t 2), none, [0, 1, 2, 3]⟩,
  ⟨none, .store 1 (.t 19) (.t 18), none, [4, 3, 3, 0, 1, 2, 3]⟩])
(.seq (.seq (.reg false [⟨(some 20), .fa 2 (.t 2), none, []⟩,
  ⟨(some 21), .load true 1 (.t 20), none, [0]⟩,
  ⟨(some 22), .fa 3 (.t 2), none, []⟩,
  ⟨(some 23), .load true 1 (.t 22), none, [2]⟩,
  ⟨(some 24), .call 113 [(.t 21), (.t 23)], none, [1, 3]⟩,
  ⟨(some 25), .bin .geq (.t 24) (.d (.int .i64 0)), none, [4]⟩])
(.cond (.t 25)
 (.seq (.reg false [⟨(some 26), .fa 0 (.t 2), none, []⟩,
   ⟨(some 27), .load false 1 (.t 26), none, [0]⟩,
   ⟨(some 28), .bin .add (.t 27) (.d (.int .i64 1)), none, [1]⟩,
   ⟨(some 29), .fa 0 (.t 2), none, [0, 1, 2]⟩,
   ⟨none, .store 1 (.t 29) (.t 28), none, [3, 2, 0, 1, 2]⟩])
 (.seq (.reg false [⟨(some 30), .mv (.t 1), none, []⟩,
   ⟨(some 31), .fa 3 (.t 2), none, []⟩,
   ⟨(some 32), .load true 1 (.t 31), none, [1]⟩,
   ⟨(some 33), .call 213 [(.t 30), (.t 32)], none, [0, 2]⟩,
   ⟨(some 34), .fa 3 (.t 2), none, [0, 1, 2, 3]⟩,
   ⟨none, .store 1 (.t 34) (.t 33), none, [4, 3, 3, 0, 1, 2, 3]⟩])
 (.reg false [⟨(some 35), .mv (.t 1), none, []⟩,
   ⟨(some 36), .fa 3 (.t 2), none, []⟩,
   ⟨(some 37), .load true 1 (.t 36), none, [1]⟩,
   ⟨(some 38), .call 214 [(.t 35), (.t 37)], none, [0, 2]⟩,
   ⟨(some 39), .fa 1 (.t 2), none, [0, 1, 2, 3]⟩,
   ⟨none, .store 1 (.t 39) (.t 38), none, [4, 3, 3, 0, 1, 2, 3]⟩])))
 .skip))
(.seq (.reg false [⟨(some 40), .load true 4 (.t 2), none, []⟩,
  ⟨none, .store 4 (.t 4) (.t 40), none, [0, 0]⟩])
.ret)))))
theorem r_yu_Place_next : fnOf Tryz.prog n_yu_Place_next = some (c_yu_Place_next, [.cell 4 true 4], 41, false) := by kernel_rfl

/-- tallymark/yu.more -/
abbrev n_yu_more : FuncId := 213
def c_yu_more : C := (.seq (.reg false [⟨(some 3), .box 91 (.t 1), none, []⟩,
  ⟨(some 4), .new 91 [.nilsl], none, []⟩])
(.seq (.reg false [⟨(some 8), .load true 1 (.t 3), none, []⟩,
  ⟨(some 9), .mv (.t 0), none, []⟩,
  ⟨(some 10), .call 186 [(.t 8), (.t 9)], none, [0, 1]⟩,
  ⟨(some 5), .new 91 [.nilsl], none, []⟩,
  ⟨none, .store 1 (.t 5) (.t 10), none, [3, 2, 2, 0, 1, 2, 3]⟩])
(.seq (.seq (.reg false [⟨(some 12), .load true 1 (.t 5), none, []⟩,
  ⟨(some 13), .mv (.t 0), none, []⟩,
  ⟨(some 14), .call 110 [(.t 12), (.t 13)], none, [0, 1]⟩,
  ⟨(some 11), .mv (.t 14), none, [2]⟩,
  ⟨(some 15), .ext (.t 11) 0, none, [3]⟩,
  ⟨(some 16), .ext (.t 11) 1, none, [3]⟩,
  ⟨(some 6), .new 91 [.nilsl], none, []⟩,
  ⟨none, .store 1 (.t 6) (.t 15), none, [6, 4, 2, 0, 1, 2, 3, 4, 6]⟩,
  ⟨(some 7), .mv (.t 16), none, [5, 7, 0, 1, 2, 3, 4, 5, 6, 7]⟩])
(.seq (.reg false [⟨(some 17), .load true 1 (.t 6), none, []⟩,
  ⟨(some 18), .load true 1 (.t 3), none, []⟩,
  ⟨(some 19), .call 113 [(.t 17), (.t 18)], none, [0, 1]⟩,
  ⟨(some 20), .bin .lss (.t 19) (.d (.int .i64 0)), none, [2]⟩])
(.cond (.t 20)
 (.reg true [⟨(some 21), .load true 1 (.t 5), none, []⟩,
   ⟨(some 22), .bsl 80 1 1 [(.int .u64 0)] [(0, 1, (.d (.int .u64 1)))], none, []⟩,
   ⟨(some 23), .call 111 [(.t 22)], none, [1]⟩,
   ⟨(some 24), .call 124 [(.t 21), (.t 23)], none, [0, 2, 2]⟩,
   ⟨none, .store 1 (.t 5) (.t 24), none, [3, 3, 0, 1, 2, 3]⟩])
 .skip)))
(.seq (.reg false [⟨(some 25), .load true 1 (.t 3), none, []⟩,
  ⟨(some 26), .load true 1 (.t 5), none, []⟩,
  ⟨(some 27), .call 124 [(.t 25), (.t 26)], none, [0, 1]⟩,
  ⟨none, .store 1 (.t 4) (.t 27), none, [2, 2, 0, 1, 2]⟩])
.ret))))
theorem r_yu_more : fnOf Tryz.prog n_yu_more = some (c_yu_more, [.cell 4 true 1], 28, false) := by kernel_rfl

/-- tallymark/yu.shift -/
abbrev n_yu_shift : FuncId := 214
def c_yu_shift : C := (.seq (.reg false [⟨(some 3), .box 91 (.t 1), none, []⟩,
  ⟨(some 4), .mv (.d (.int .i64 0)), none, []⟩])
(.seq (.reg false [⟨(some 5), .load true 1 (.t 3), none, []⟩,
  ⟨(some 6), .call 146 [(.t 5)], none, [0]⟩,
  ⟨(some 7), .bin .sub (.t 6) (.d (.int .i64 1)), none, [1]⟩,
  ⟨(some 8), .mv (.t 0), none, []⟩,
  ⟨(some 9), .bin .mul (.d (.int .i64 2)) (.t 8), none, [3]⟩,
  ⟨(some 10), .bin .sub (.t 7) (.t 9), none, [2, 4]⟩,
  ⟨(some 11), .mm true [(.d (.int .i64 0)), (.t 10)], none, [5]⟩,
  ⟨(some 4), .mv (.t 11), none, [6, 1, 0, 1, 2, 3, 4, 5, 6]⟩])
.ret))
theorem r_yu_shift : fnOf Tryz.prog n_yu_shift = some (c_yu_shift, [.t 4], 12, false) := by kernel_rfl

/-- math/bits.Add64 -/
abbrev n_math_bits_Add64 : FuncId := 123
theorem x_math_bits_Add64 : Tryz.prog.funcs[n_math_bits_Add64]? = some Tryz.f123 := Tryz.func123
/-- math/bits.Sub64 -/
abbrev n_math_bits_Sub64 : FuncId := 182
theorem x_math_bits_Sub64 : Tryz.prog.funcs[n_math_bits_Sub64]? = some Tryz.f182 := Tryz.func182
end
end Go.Proofs.YtdbfenhaljmbfaaGreat.Am
namespace Go.Proofs.YtdbfenhaljmbfaaGreat.Am
section
set_option linter.unusedVariables false
set_option linter.unusedSimpArgs false
/-- what words stand for, the lowest first -/
def wval : List Nat → Nat
  | [] => 0
  | x :: l => x + 18446744073709551616 * wval l
def small (ws : List Nat) : Prop := ∀ x ∈ ws, x < 18446744073709551616

theorem wval_append : ∀ (a b : List Nat), wval (a ++ b) = wval a + 18446744073709551616 ^ a.length * wval b := by
  intro a
  induction a with
  | nil => intro b; simp [wval]
  | cons x a ih => intro b; simp only [List.cons_append, wval, List.length_cons]; rw [ih, Nat.pow_succ, Nat.mul_add, ← Nat.mul_assoc, Nat.mul_comm 18446744073709551616 (18446744073709551616 ^ a.length)]; omega
theorem wval_zeros : ∀ n, wval (List.replicate n 0) = 0 := by
  intro n
  induction n with
  | zero => rfl
  | succ n ih => rw [List.replicate_succ, wval, ih]
theorem wval_lt : ∀ {ws : List Nat}, small ws → wval ws < 18446744073709551616 ^ ws.length := by
  intro ws
  induction ws with
  | nil => intro _; simp [wval]
  | cons x l ih =>
    intro h
    have h1 := h x (by simp)
    have h2 := ih (fun y hy => h y (by simp [hy]))
    rw [wval, List.length_cons, Nat.pow_succ]
    omega

/-- how many are left when the highest that are 0 are struck, of the first n -/
def trimN (ws : List Nat) : Nat → Nat
  | 0 => 0
  | n + 1 => if ws.getD n 0 = 0 then trimN ws n else n + 1
theorem take_succ_getD (ws : List Nat) (n : Nat) (h : n < ws.length) : ws.take (n + 1) = ws.take n ++ [ws.getD n 0] := by
  rw [List.take_add_one, List.getElem?_eq_getElem h]
  simp [List.getD, List.getElem?_eq_getElem h]
theorem trimN_val (ws : List Nat) : ∀ n, n ≤ ws.length → wval (ws.take (trimN ws n)) = wval (ws.take n) := by
  intro n
  induction n with
  | zero => intro _; rfl
  | succ n ih =>
    intro h
    unfold trimN
    split
    · rename_i h0
      rw [ih (by omega), take_succ_getD _ _ (by omega), wval_append, h0]
      simp [wval]
    · rfl
/-- the highest isn't 0 -/
def top1 (ws : List Nat) : Prop := ∀ k, ws.length = k + 1 → ws.getD k 0 ≠ 0
theorem trimN_top (ws : List Nat) : ∀ n, n ≤ ws.length → top1 (ws.take (trimN ws n)) := by
  intro n
  induction n with
  | zero => intro _ k hk; simp [trimN] at hk
  | succ n ih =>
    intro h
    unfold trimN
    split
    · exact ih (by omega)
    · rename_i h0
      intro k hk
      rw [List.length_take, Nat.min_eq_left h] at hk
      obtain rfl : n = k := by omega
      have e : (ws.take (n + 1)).getD n 0 = ws.getD n 0 := by simp [List.getD]
      rw [e]
      exact h0

theorem small.take {ws : List Nat} (h : small ws) (n : Nat) : small (ws.take n) := fun x hx => h x (List.mem_of_mem_take hx)

theorem top1_zero {ws : List Nat} (h : small ws) (ht : top1 ws) (h0 : wval ws = 0) : ws = [] := by
  rcases ws.eq_nil_or_concat with rfl | ⟨l, x, rfl⟩
  · rfl
  · exfalso
    have := ht l.length (by simp)
    simp at this
    simp [wval_append, wval] at h0
    rcases Nat.mul_eq_zero.1 h0.2 with h | h
    · exact absurd h (Nat.pos_iff_ne_zero.1 (Nat.pow_pos (by decide)))
    · exact this h

/-- words are what they stand for -/
theorem words_eq : ∀ {a b : List Nat}, small a → small b → top1 a → top1 b → wval a = wval b → a = b := by
  intro a
  induction a with
  | nil => intro b _ hb _ tb h; exact (top1_zero hb tb h.symm).symm
  | cons x a ih =>
    intro b ha hb ta tb h
    cases b with
    | nil => exact absurd (top1_zero ha ta h) (by simp)
    | cons y b =>
      have h1 := ha x (by simp)
      have h2 := hb y (by simp)
      simp only [wval] at h
      have e : x = y := by omega
      subst e
      have e2 : wval a = wval b := by omega
      have e3 : a = b := ih (fun z hz => ha z (by simp [hz])) (fun z hz => hb z (by simp [hz])) (fun k hk => by have := ta (k + 1) (by simp [hk]); simpa using this) (fun k hk => by have := tb (k + 1) (by simp [hk]); simpa using this) e2
      rw [e3]

/-- moved up by less than a word, with what comes from below -/
def movedL (k : Nat) : Nat → List Nat → List Nat
  | c, [] => [c]
  | c, x :: l => ((x * 2 ^ k) % 18446744073709551616 + c) :: movedL k (x * 2 ^ k / 18446744073709551616) l
theorem movedL_len (k : Nat) : ∀ (l : List Nat) (c : Nat), (movedL k c l).length = l.length + 1 := by
  intro l
  induction l with
  | nil => intro c; rfl
  | cons x l ih => intro c; simp [movedL, ih]
theorem movedL_val (k : Nat) : ∀ (l : List Nat) (c : Nat), wval (movedL k c l) = wval l * 2 ^ k + c := by
  intro l
  induction l with
  | nil => intro c; simp [movedL, wval]
  | cons x l ih =>
    intro c
    rw [movedL, wval, ih, wval]
    have := Nat.div_add_mod (x * 2 ^ k) 18446744073709551616
    rw [Nat.add_mul, Nat.mul_add, Nat.mul_assoc]
    omega
theorem movedL_small {k : Nat} (hk : k < 64) : ∀ {l : List Nat} {c : Nat}, small l → c < 2 ^ k → small (movedL k c l) := by
  have p64 : (18446744073709551616 : Nat) = 2 ^ (64 - k) * 2 ^ k := by rw [← Nat.pow_add, show 64 - k + k = 64 by omega]
  intro l
  induction l with
  | nil =>
    intro c _ hc x hx
    simp [movedL] at hx; subst hx
    exact Nat.lt_trans hc (by rw [show (18446744073709551616 : Nat) = 2 ^ 64 by decide]; exact Nat.pow_lt_pow_right (by decide) hk)
  | cons y l ih =>
    intro c h hc x hx
    simp only [movedL, List.mem_cons] at hx
    have hy := h y (by simp)
    rcases hx with rfl | hx
    · rw [p64, Nat.mul_mod_mul_right]
      have : y % 2 ^ (64 - k) < 2 ^ (64 - k) := Nat.mod_lt _ (Nat.pow_pos (by decide))
      calc _ < y % 2 ^ (64 - k) * 2 ^ k + 2 ^ k := by omega
        _ = (y % 2 ^ (64 - k) + 1) * 2 ^ k := by rw [Nat.add_mul, Nat.one_mul]
        _ ≤ _ := Nat.mul_le_mul_right _ this
    · refine ih (fun z hz => h z (by simp [hz])) ?_ x hx
      apply Nat.div_lt_of_lt_mul
      exact Nat.mul_lt_mul_of_pos_right hy (Nat.pow_pos (by decide))

/-- the same, its last word apart -/
def movedB (k : Nat) : Nat → List Nat → List Nat
  | _, [] => []
  | c, x :: l => ((x * 2 ^ k) % 18446744073709551616 + c) :: movedB k (x * 2 ^ k / 18446744073709551616) l
def movedC (k : Nat) : Nat → List Nat → Nat
  | c, [] => c
  | _, x :: l => movedC k (x * 2 ^ k / 18446744073709551616) l
theorem movedL_eq (k : Nat) : ∀ (l : List Nat) (c : Nat), movedL k c l = movedB k c l ++ [movedC k c l] := by
  intro l
  induction l with
  | nil => intro c; rfl
  | cons x l ih => intro c; simp [movedL, movedB, movedC, ih]
theorem movedB_len (k : Nat) (l : List Nat) (c : Nat) : (movedB k c l).length = l.length := by
  have h := movedL_len k l c
  rw [movedL_eq, List.length_append] at h
  simpa using h
theorem movedB_snoc (k : Nat) (x : Nat) : ∀ (l : List Nat) (c : Nat), movedB k c (l ++ [x]) = movedB k c l ++ [(x * 2 ^ k) % 18446744073709551616 + movedC k c l] := by
  intro l
  induction l with
  | nil => intro c; rfl
  | cons y l ih => intro c; simp [movedB, movedC, ih]
theorem movedC_snoc (k : Nat) (x : Nat) : ∀ (l : List Nat) (c : Nat), movedC k c (l ++ [x]) = x * 2 ^ k / 18446744073709551616 := by
  intro l
  induction l with
  | nil => intro c; rfl
  | cons y l ih => intro c; simp [movedC, ih]
theorem moved_lt {k x : Nat} (hx : x < 18446744073709551616) : x * 2 ^ k / 18446744073709551616 < 2 ^ k := by
  apply Nat.div_lt_of_lt_mul
  exact Nat.mul_lt_mul_of_pos_right hx (Nat.pow_pos (by decide))
theorem movedC_lt {k : Nat} : ∀ {l : List Nat} {c : Nat}, small l → c < 2 ^ k → movedC k c l < 2 ^ k := by
  intro l
  induction l with
  | nil => intro c _ hc; exact hc
  | cons x l ih => intro c h hc; exact ih (fun z hz => h z (by simp [hz])) (moved_lt (h x (by simp)))
/-- the bits of what was moved up, and what comes from below -/
theorem or_moved {k x c : Nat} (hk : k < 64) (hc : c < 2 ^ k) : c ||| (x * 2 ^ k) % 18446744073709551616 = (x * 2 ^ k) % 18446744073709551616 + c := by
  have p64 : (18446744073709551616 : Nat) = 2 ^ (64 - k) * 2 ^ k := by rw [← Nat.pow_add, show 64 - k + k = 64 by omega]
  rw [p64, Nat.mul_mod_mul_right, Nat.or_comm, Nat.mul_comm]
  exact (Nat.two_pow_add_eq_or_of_lt hc _).symm
theorem moved_div {k x : Nat} (hk : k ≤ 64) : x * 2 ^ k / 18446744073709551616 = x / 2 ^ (64 - k) := by
  have p64 : (18446744073709551616 : Nat) = 2 ^ (64 - k) * 2 ^ k := by rw [← Nat.pow_add, show 64 - k + k = 64 by omega]
  rw [p64, Nat.mul_div_mul_right _ _ (Nat.pow_pos (by decide))]

/-- so many words are there at least -/
theorem words_le : ∀ {ws : List Nat} {m : Nat}, top1 ws → wval ws < 18446744073709551616 ^ m → ws.length ≤ m := by
  intro ws
  induction ws with
  | nil => intro m _ _; exact Nat.zero_le _
  | cons x l ih =>
    intro m ht h
    cases m with
    | zero =>
      exfalso
      rw [Nat.pow_zero] at h
      rw [wval] at h
      cases l with
      | nil =>
        have := ht 0 rfl
        simp [wval] at this h
        omega
      | cons y l =>
        have hw : wval (y :: l) = 0 := by omega
        have : (y :: l).length ≤ 0 := ih (m := 0) (fun k hk => by have := ht (k + 1) (by simp [hk]); simpa using this) (by rw [hw]; decide)
        simp at this
    | succ m =>
      rw [List.length_cons]
      have : l.length ≤ m := by
        cases l with
        | nil => exact Nat.zero_le _
        | cons y l =>
          refine ih (fun k hk => by have := ht (k + 1) (by simp [hk]); simpa using this) ?_
          rw [wval, Nat.pow_succ] at h
          omega
      omega

theorem wval_range (f : Nat → Nat) (n : Nat) : wval ((List.range (n + 1)).map f) = wval ((List.range n).map f) + 18446744073709551616 ^ n * f n := by
  rw [List.range_succ, List.map_append, wval_append]
  simp [wval]
theorem wval_take (l : List Nat) (n : Nat) : wval (l.take (n + 1)) = wval (l.take n) + 18446744073709551616 ^ n * l.getD n 0 := by
  by_cases h : n < l.length
  · rw [take_succ_getD _ _ h, wval_append, List.length_take, Nat.min_eq_left (Nat.le_of_lt h)]
    simp [wval]
  · rw [List.take_of_length_le (by omega), List.take_of_length_le (by omega)]
    simp [List.getD, List.getElem?_eq_none (show l.length ≤ n by omega)]

/-- the carry into word n -/
def carryW (a b : List Nat) : Nat → Nat
  | 0 => 0
  | n + 1 => (a.getD n 0 + b.getD n 0 + carryW a b n) / 18446744073709551616
def addW (a b : List Nat) (n : Nat) : Nat := (a.getD n 0 + b.getD n 0 + carryW a b n) % 18446744073709551616

theorem small.getD {l : List Nat} (h : small l) (n : Nat) : l.getD n 0 < 18446744073709551616 := by
  by_cases hn : n < l.length
  · rw [List.getD, List.getElem?_eq_getElem hn]; exact h _ (List.getElem_mem hn)
  · simp [List.getD, List.getElem?_eq_none (show l.length ≤ n by omega)]
theorem carryW_le {a b : List Nat} (ha : small a) (hb : small b) : ∀ n, carryW a b n ≤ 1 := by
  intro n
  induction n with
  | zero => exact Nat.zero_le _
  | succ n ih =>
    have h1 := ha.getD n
    have h2 := hb.getD n
    simp only [carryW]
    omega
theorem addW_val (a b : List Nat) : ∀ n, wval ((List.range n).map (addW a b)) + 18446744073709551616 ^ n * carryW a b n = wval (a.take n) + wval (b.take n) := by
  intro n
  induction n with
  | zero => simp [wval, carryW]
  | succ n ih =>
    rw [wval_range, wval_take, wval_take]
    have := Nat.div_add_mod (a.getD n 0 + b.getD n 0 + carryW a b n) 18446744073709551616
    simp only [addW, carryW]
    rw [Nat.pow_succ]
    generalize 18446744073709551616 ^ n = P at *
    generalize (a.getD n 0 + b.getD n 0 + carryW a b n) / 18446744073709551616 = q at *
    generalize (a.getD n 0 + b.getD n 0 + carryW a b n) % 18446744073709551616 = r at *
    have e : P * (18446744073709551616 * q + r) = P * a.getD n 0 + P * b.getD n 0 + P * carryW a b n := by rw [this]; simp [Nat.mul_add]
    rw [Nat.mul_add, ← Nat.mul_assoc] at e
    omega

/-- the borrow into word n -/
def borrowW (a b : List Nat) : Nat → Nat
  | 0 => 0
  | n + 1 => if a.getD n 0 < b.getD n 0 + borrowW a b n then 1 else 0
def subW (a b : List Nat) (n : Nat) : Nat := (a.getD n 0 + 18446744073709551616 - b.getD n 0 - borrowW a b n) % 18446744073709551616
theorem borrowW_le (a b : List Nat) : ∀ n, borrowW a b n ≤ 1 := by
  intro n
  cases n with
  | zero => exact Nat.zero_le _
  | succ n => simp only [borrowW]; split <;> omega
theorem subW_val {a b : List Nat} (ha : small a) (hb : small b) : ∀ n, wval ((List.range n).map (subW a b)) + wval (b.take n) = wval (a.take n) + 18446744073709551616 ^ n * borrowW a b n := by
  intro n
  induction n with
  | zero => simp [wval, borrowW]
  | succ n ih =>
    rw [wval_range, wval_take, wval_take]
    have h1 := ha.getD n
    have h2 := hb.getD n
    have h3 := borrowW_le a b n
    have e : subW a b n + b.getD n 0 + borrowW a b n = a.getD n 0 + 18446744073709551616 * borrowW a b (n + 1) := by
      simp only [subW, borrowW]
      split <;> omega
    rw [Nat.pow_succ, Nat.mul_assoc]
    generalize 18446744073709551616 ^ n = P at *
    have e2 : P * subW a b n + P * b.getD n 0 + P * borrowW a b n = P * a.getD n 0 + P * (18446744073709551616 * borrowW a b (n + 1)) := by rw [← Nat.mul_add, ← Nat.mul_add, e, Nat.mul_add]
    omega
theorem range_small {f : Nat → Nat} (h : ∀ i, f i < 18446744073709551616) (n : Nat) : small ((List.range n).map f) := by
  intro x hx
  obtain ⟨i, _, rfl⟩ := List.mem_map.1 hx
  exact h i
theorem addW_lt (a b : List Nat) (i : Nat) : addW a b i < 18446744073709551616 := Nat.mod_lt _ (by decide)
theorem subW_lt (a b : List Nat) (i : Nat) : subW a b i < 18446744073709551616 := Nat.mod_lt _ (by decide)

theorem shorter_lt {a b : List Nat} (ha : small a) (hb : top1 b) (h : a.length < b.length) : wval a < wval b := by
  refine Nat.lt_of_lt_of_le (wval_lt ha) ?_
  apply Nat.le_of_not_lt
  intro hlt
  have := words_le hb hlt
  omega
/-- from the highest on, the first that are unlike tell -/
def cmpN (a b : List Nat) : Nat → Int
  | 0 => 0
  | n + 1 => if a.getD n 0 < b.getD n 0 then -1 else if b.getD n 0 < a.getD n 0 then 1 else cmpN a b n
theorem take_lt {l : List Nat} (h : small l) (n : Nat) : wval (l.take n) < 18446744073709551616 ^ n := by
  have := wval_lt (h.take n)
  rw [List.length_take] at this
  exact Nat.lt_of_lt_of_le this (Nat.pow_le_pow_right (by decide) (Nat.min_le_left _ _))
theorem cmpN_val {a b : List Nat} (ha : small a) (hb : small b) : ∀ n, cmpN a b n = if wval (a.take n) < wval (b.take n) then -1 else if wval (b.take n) < wval (a.take n) then 1 else 0 := by
  intro n
  induction n with
  | zero => simp [cmpN, wval]
  | succ n ih =>
    rw [wval_take, wval_take]
    have h1 := take_lt ha n
    have h2 := take_lt hb n
    simp only [cmpN]
    generalize 18446744073709551616 ^ n = P at *
    generalize a.getD n 0 = x at *
    generalize b.getD n 0 = y at *
    by_cases hxy : x < y
    · rw [if_pos hxy, if_pos]
      have : P * (x + 1) ≤ P * y := Nat.mul_le_mul_left _ hxy
      rw [Nat.mul_add] at this
      omega
    · rw [if_neg hxy]
      by_cases hyx : y < x
      · have : P * (y + 1) ≤ P * x := Nat.mul_le_mul_left _ hyx
        rw [Nat.mul_add] at this
        rw [if_pos hyx, if_neg (by omega), if_pos (by omega)]
      · obtain rfl : x = y := by omega
        rw [if_neg hyx, ih]
        simp only [Nat.add_lt_add_iff_right]
/-- less, the same, more -/
def cmpZ (m n : Nat) : Int := if m < n then -1 else if n < m then 1 else 0
end
end Go.Proofs.YtdbfenhaljmbfaaGreat.Am
