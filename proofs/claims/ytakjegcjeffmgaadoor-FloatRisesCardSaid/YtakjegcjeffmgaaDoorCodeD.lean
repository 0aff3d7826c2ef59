import Derived.Test.YtakjegcjeffmgaaDoorAmTri
import Derived.Test.YtakjegcjeffmgaaDoorProg
/- The code of functions, types and places resolved. Written by a program. -/
namespace Go.Proofs.YtakjegcjeffmgaaDoor.Am
open Go.Proofs.YtakjegcjeffmgaaDoor.Am
set_option maxRecDepth 100000

theorem mix : Tryd.prog.follows .mixedOrders = true := by kernel_rfl

abbrev t_int64 : Nat := 2
abbrev t_int : Nat := 3
abbrev t_bool : Nat := 4
abbrev t_uint8 : Nat := 5
abbrev t_abi_BoundsErrorCode : Nat := 6
abbrev t_runtime_boundsError : Nat := 8
abbrev t_string : Nat := 9
abbrev t_runtime_errorString : Nat := 10
abbrev t_runtime_plainError : Nat := 11
abbrev t_uintptr : Nat := 12
abbrev t_runtime_errorAddressString : Nat := 14
abbrev t_maps_unhashableTypeError : Nat := 19
abbrev t_int32 : Nat := 21
abbrev t_nat_Nat : Nat := 25
abbrev t_yu_Place : Nat := 27
abbrev t_api_Errno : Nat := 28
abbrev t_uint64 : Nat := 34
abbrev t_Tref10_Out : Nat := 49
abbrev t_whole_Whole : Nat := 54
abbrev t_rat_Rat : Nat := 56
abbrev t_Tref05_N : Nat := 65
abbrev t_tape_cursor : Nat := 81
abbrev t_tape_Tape : Nat := 83
abbrev t_uint : Nat := 102
abbrev t_strings_Builder : Nat := 109
abbrev t_error : Nat := 112
abbrev t_uint32 : Nat := 129
abbrev t_unsafe_Pointer : Nat := 138
abbrev t_runtime_TypeAssertionError : Nat := 148
abbrev t_runtime_PanicNilError : Nat := 151
abbrev t_abi_TFlag : Nat := 152
abbrev t_abi_Kind : Nat := 153
abbrev t_abi_NameOff : Nat := 155
abbrev t_abi_TypeOff : Nat := 156
abbrev t_abi_Type : Nat := 158
abbrev t_errors_errorString : Nat := 160

/-- tallymark/float.Good -/
abbrev n_float_Good : FuncId := 27
def c_float_Good : C := (.seq (.reg false [⟨(some 2), .mv (.d (.bool false)), none, []⟩])
(.seq (.reg false [⟨(some 3), .mv (.t 0), none, []⟩,
  ⟨(some 4), .bin .geq (.t 3) (.d (.int .i64 0)), none, [0]⟩,
  ⟨(some 5), .mv (.t 4), none, [1]⟩,
  ⟨(some 6), .mv (.t 0), some (5, true), [2]⟩,
  ⟨(some 7), .bin .leq (.t 6) (.d (.int .i64 8)), some (5, true), [3, 2]⟩,
  ⟨(some 8), .pick (.t 5) (.t 7) (.d (.bool false)), none, [2, 4]⟩,
  ⟨(some 2), .mv (.t 8), none, [5, 2, 0, 1, 2, 3, 4, 5]⟩])
.ret))
theorem r_float_Good : fnOf Tryd.prog n_float_Good = some (c_float_Good, [.t 2], 9, false) := by kernel_rfl

/-- tallymark/float.wrong -/
abbrev n_float_wrong : FuncId := 50
def c_float_wrong : C := (.seq (.reg false [⟨(some 4), .mv (.d (.int .i64 0)), none, []⟩])
(.seq (.seq (.reg false [⟨(some 7), .mv (.t 0), none, []⟩,
  ⟨(some 8), .call 27 [(.t 7)], none, [0]⟩,
  ⟨(some 9), .un .not (.t 8), none, [1]⟩])
(.cond (.t 9)
 (.seq (.reg false [⟨(some 4), .mv (.d (.int .i64 10)), none, []⟩])
 .ret)
 .skip))
(.seq (.seq (.reg false [⟨(some 10), .mv (.t 1), none, []⟩,
  ⟨(some 11), .len (.t 10), none, [0]⟩,
  ⟨(some 12), .mv (.d (.int .i64 0)), none, []⟩])
(.block 0 (.loop (.seq (.reg false [⟨(some 13), .bin .lss (.t 12) (.t 11), none, []⟩])
(.seq (.cond (.t 13)
 .skip
 (.exit 0))
(.seq (.block 1 (.seq (.reg false [⟨(some 14), .ix 1 (.t 10) (.t 12), none, []⟩,
  ⟨(some 15), .load false 1 (.t 14), none, [0]⟩,
  ⟨(some 6), .mv (.t 15), none, [1, 0, 1]⟩])
(.seq (.reg false [⟨(some 16), .mv (.t 6), none, []⟩,
  ⟨(some 17), .bin .lss (.t 16) (.d (.int .i64 0)), none, [0]⟩,
  ⟨(some 18), .mv (.t 17), none, [1]⟩,
  ⟨(some 19), .mv (.t 6), some (18, false), [2]⟩,
  ⟨(some 20), .bin .gtr (.t 19) (.d (.int .i64 1023)), some (18, false), [3, 2]⟩,
  ⟨(some 21), .pick (.t 18) (.d (.bool true)) (.t 20), none, [2, 4]⟩])
(.cond (.t 21)
 (.seq (.reg false [⟨(some 4), .mv (.d (.int .i64 2)), none, []⟩])
 .ret)
 .skip))))
(.reg false [⟨(some 22), .bin .add (.t 12) (.d (.int .i64 1)), none, []⟩,
  ⟨(some 12), .mv (.t 22), none, [0]⟩])))))))
(.seq (.reg false [⟨(some 4), .mv (.d (.int .i64 0)), none, []⟩])
.ret))))
theorem r_float_wrong : fnOf Tryd.prog n_float_wrong = some (c_float_wrong, [.t 4], 23, false) := by kernel_rfl

/-- tallymark/float.parts -/
abbrev n_float_parts : FuncId := 51
def c_float_parts : C := (.seq (.reg false [⟨(some 4), .mv (.d (.int .i64 0)), none, []⟩,
  ⟨(some 5), .mv (.d (.int .i64 0)), none, [0]⟩])
(.seq (.reg true [⟨(some 6), .mv (.t 1), none, []⟩,
  ⟨(some 7), .mv (.t 0), none, []⟩,
  ⟨(some 8), .bin .shr (.t 6) (.t 7), none, [0, 1]⟩,
  ⟨(some 9), .mv (.t 1), none, []⟩,
  ⟨(some 10), .mv (.t 0), none, []⟩,
  ⟨(some 11), .bin .shl (.d (.int .i64 1)) (.t 10), none, [4]⟩,
  ⟨(some 12), .bin .sub (.t 11) (.d (.int .i64 1)), none, [5]⟩,
  ⟨(some 13), .bin .and (.t 9) (.t 12), none, [3, 6]⟩,
  ⟨(some 4), .mv (.t 8), none, [2, 0, 1, 2]⟩,
  ⟨(some 5), .mv (.t 13), none, [7, 8, 0, 1, 2, 3, 4, 5, 6, 7, 8]⟩])
.ret))
theorem r_float_parts : fnOf Tryd.prog n_float_parts = some (c_float_parts, [.t 4, .t 5], 14, false) := by kernel_rfl

/-- slices.Clone[[]uint64,uint64] -/
abbrev n_slices_Clone_uint64_uint64 : FuncId := 45
def c_slices_Clone_uint64_uint64 : C := (.seq (.reg false [⟨(some 2), .mv (.d .nilsl), none, []⟩])
(.seq (.seq (.reg false [⟨(some 3), .mv (.t 0), none, []⟩,
  ⟨(some 4), .snl false (.t 3), none, [0]⟩])
(.cond (.t 4)
 (.seq (.reg false [⟨(some 2), .mv (.d .nilsl), none, []⟩])
 .ret)
 .skip))
(.seq (.reg false [⟨(some 5), .bsl0, none, []⟩,
  ⟨(some 6), .mv (.t 0), none, []⟩,
  ⟨(some 7), .app 34 1 8 (.t 5) (.t 6), none, [0, 1]⟩,
  ⟨(some 2), .mv (.t 7), none, [2, 2, 0, 1, 2]⟩])
.ret)))
theorem r_slices_Clone_uint64_uint64 : fnOf Tryd.prog n_slices_Clone_uint64_uint64 = some (c_slices_Clone_uint64_uint64, [.t 2], 8, false) := by kernel_rfl

/-- tallymark/nat.trimmed -/
abbrev n_nat_trimmed : FuncId := 42
def c_nat_trimmed : C := (.seq (.reg false [⟨(some 2), .new 25 [.nilsl], none, []⟩])
(.seq (.reg false [⟨(some 4), .mv (.t 0), none, []⟩,
  ⟨(some 5), .len (.t 4), none, [0]⟩,
  ⟨(some 3), .mv (.t 5), none, [1, 0, 1]⟩])
(.seq (.block 0 (.loop (.seq (.seq (.reg false [⟨(some 6), .mv (.t 3), none, []⟩,
  ⟨(some 7), .bin .gtr (.t 6) (.d (.int .i64 0)), none, [0]⟩,
  ⟨(some 8), .mv (.t 7), none, [1]⟩,
  ⟨(some 9), .mv (.t 0), some (8, true), [2]⟩,
  ⟨(some 10), .mv (.t 3), some (8, true), [2]⟩,
  ⟨(some 11), .bin .sub (.t 10) (.d (.int .i64 1)), some (8, true), [4, 2]⟩,
  ⟨(some 12), .ix 1 (.t 9) (.t 11), some (8, true), [3, 5, 2]⟩,
  ⟨(some 13), .load false 1 (.t 12), some (8, true), [6, 2]⟩,
  ⟨(some 14), .bin .eql (.t 13) (.d (.int .u64 0)), some (8, true), [7, 2]⟩,
  ⟨(some 15), .pick (.t 8) (.t 14) (.d (.bool false)), none, [2, 8]⟩])
(.cond (.t 15)
 .skip
 (.exit 0)))
(.block 1 (.reg false [⟨(some 16), .mv (.t 3), none, []⟩,
  ⟨(some 17), .bin .sub (.t 16) (.d (.int .i64 1)), none, [0]⟩,
  ⟨(some 3), .mv (.t 17), none, [1, 0, 1]⟩])))))
(.seq (.reg false [⟨(some 18), .mv (.t 0), none, []⟩,
  ⟨(some 19), .mv (.t 3), none, []⟩,
  ⟨(some 20), .slice 1 (.t 18) none (some (.t 19)) none, none, [0, 1]⟩,
  ⟨(some 21), .build [.nilsl] [(0, 1, (.t 20))], none, [2]⟩,
  ⟨none, .store 1 (.t 2) (.t 21), none, [3, 0, 1, 2, 3]⟩])
.ret))))
theorem r_nat_trimmed : fnOf Tryd.prog n_nat_trimmed = some (c_nat_trimmed, [.cell 2 true 1], 22, false) := by kernel_rfl

/-- tallymark/nat.Of -/
abbrev n_nat_Of : FuncId := 13
def c_nat_Of : C := (.seq (.reg false [⟨(some 2), .new 25 [.nilsl], none, []⟩])
(.seq (.reg false [⟨(some 3), .mv (.t 0), none, []⟩,
  ⟨(some 4), .call 45 [(.t 3)], none, [0]⟩,
  ⟨(some 5), .call 42 [(.t 4)], none, [1, 1]⟩,
  ⟨none, .store 1 (.t 2) (.t 5), none, [2, 2, 0, 1, 2]⟩])
.ret))
theorem r_nat_Of : fnOf Tryd.prog n_nat_Of = some (c_nat_Of, [.cell 2 true 1], 6, false) := by kernel_rfl

/-- tallymark/nat.moved -/
abbrev n_nat_moved : FuncId := 46
def c_nat_moved : C := (.seq (.reg false [⟨(some 4), .mv (.d .nilsl), none, []⟩])
(.seq (.reg false [⟨(some 8), .mv (.t 0), none, []⟩,
  ⟨(some 9), .len (.t 8), none, [0]⟩,
  ⟨(some 10), .bin .add (.t 9) (.d (.int .i64 1)), none, [1]⟩,
  ⟨(some 11), .mksl 34 1 8 [(.int .u64 0)] (.t 10) (.t 10), none, [2, 2]⟩,
  ⟨(some 5), .mv (.t 11), none, [3, 0, 1, 2, 3]⟩])
(.seq (.seq (.reg false [⟨(some 12), .mv (.t 0), none, []⟩,
  ⟨(some 13), .len (.t 12), none, [0]⟩,
  ⟨(some 14), .mv (.d (.int .i64 0)), none, []⟩])
(.block 0 (.loop (.seq (.reg false [⟨(some 15), .bin .lss (.t 14) (.t 13), none, []⟩])
(.seq (.cond (.t 15)
 .skip
 (.exit 0))
(.seq (.block 1 (.seq (.reg false [⟨(some 16), .mv (.t 14), none, []⟩,
  ⟨(some 17), .ix 1 (.t 12) (.t 14), none, []⟩,
  ⟨(some 18), .load false 1 (.t 17), none, [1]⟩,
  ⟨(some 6), .mv (.t 16), none, [0, 0, 1, 2]⟩,
  ⟨(some 7), .mv (.t 18), none, [2, 3, 0, 1, 2, 3]⟩])
(.seq (.reg true [⟨(some 19), .mv (.t 5), none, []⟩,
  ⟨(some 20), .mv (.t 6), none, []⟩,
  ⟨(some 21), .ix 1 (.t 19) (.t 20), none, [0, 1]⟩,
  ⟨(some 22), .load false 1 (.t 21), none, [2]⟩,
  ⟨(some 23), .mv (.t 7), none, []⟩,
  ⟨(some 24), .mv (.t 1), none, []⟩,
  ⟨(some 25), .bin .shl (.t 23) (.t 24), none, [4, 5]⟩,
  ⟨(some 26), .bin .or (.t 22) (.t 25), none, [3, 6]⟩,
  ⟨(some 27), .ix 1 (.t 19) (.t 20), none, [0, 1, 0, 1, 2, 3, 4, 5, 6, 7]⟩,
  ⟨none, .store 1 (.t 27) (.t 26), none, [8, 7, 0, 1, 2, 3, 4, 5, 6, 7]⟩])
(.reg false [⟨(some 28), .mv (.t 5), none, []⟩,
  ⟨(some 29), .mv (.t 6), none, []⟩,
  ⟨(some 30), .bin .add (.t 29) (.d (.int .i64 1)), none, [1]⟩,
  ⟨(some 31), .mv (.t 7), none, []⟩,
  ⟨(some 32), .mv (.t 1), none, []⟩,
  ⟨(some 33), .bin .sub (.d (.int .i64 64)) (.t 32), none, [4]⟩,
  ⟨(some 34), .bin .shr (.t 31) (.t 33), none, [3, 5]⟩,
  ⟨(some 35), .ix 1 (.t 28) (.t 30), none, [0, 2, 0, 1, 2, 3, 4, 5, 6]⟩,
  ⟨none, .store 1 (.t 35) (.t 34), none, [7, 6, 0, 1, 2, 3, 4, 5, 6]⟩]))))
(.reg false [⟨(some 36), .bin .add (.t 14) (.d (.int .i64 1)), none, []⟩,
  ⟨(some 14), .mv (.t 36), none, [0]⟩])))))))
(.seq (.reg false [⟨(some 37), .mv (.t 5), none, []⟩,
  ⟨(some 4), .mv (.t 37), none, [0, 0]⟩])
.ret))))
theorem r_nat_moved : fnOf Tryd.prog n_nat_moved = some (c_nat_moved, [.t 4], 38, false) := by kernel_rfl

/-- tallymark/nat.Shl -/
abbrev n_nat_Shl : FuncId := 14
def c_nat_Shl : C := (.seq (.reg false [⟨(some 2), .box 25 (.t 0), none, []⟩,
  ⟨(some 4), .new 25 [.nilsl], none, []⟩,
  ⟨(some 5), .mv (.d (.int .i64 0)), none, []⟩])
(.seq (.seq (.reg false [⟨(some 6), .mv (.t 1), none, []⟩,
  ⟨(some 7), .bin .lss (.t 6) (.d (.int .i64 0)), none, [0]⟩,
  ⟨(some 8), .mv (.t 7), none, [1]⟩,
  ⟨(some 9), .mv (.t 1), some (8, false), [2]⟩,
  ⟨(some 10), .bin .gtr (.t 9) (.d (.int .i64 8192)), some (8, false), [3, 2]⟩,
  ⟨(some 11), .pick (.t 8) (.d (.bool true)) (.t 10), none, [2, 4]⟩])
(.cond (.t 11)
 (.seq (.reg false [⟨(some 12), .build [.nilsl] [], none, []⟩,
   ⟨none, .store 1 (.t 4) (.t 12), none, [0, 0]⟩,
   ⟨(some 5), .mv (.d (.int .i64 2)), none, [1, 0, 1]⟩])
 .ret)
 .skip))
(.seq (.reg true [⟨(some 13), .mv (.t 1), none, []⟩,
  ⟨(some 14), .bin .quo (.t 13) (.d (.int .i64 64)), none, [0]⟩,
  ⟨(some 15), .mksl 34 1 8 [(.int .u64 0)] (.t 14) (.t 14), none, [1, 1]⟩,
  ⟨(some 16), .fa 0 (.t 2), none, []⟩,
  ⟨(some 17), .load false 1 (.t 16), none, [3]⟩,
  ⟨(some 18), .mv (.t 1), none, []⟩,
  ⟨(some 19), .bin .rem (.t 18) (.d (.int .i64 64)), none, [5]⟩,
  ⟨(some 20), .call 46 [(.t 17), (.t 19)], none, [4, 6]⟩,
  ⟨(some 21), .app 34 1 8 (.t 15) (.t 20), none, [2, 7, 7]⟩,
  ⟨(some 22), .call 42 [(.t 21)], none, [8, 8]⟩,
  ⟨none, .store 1 (.t 4) (.t 22), none, [9, 9, 0, 1, 2, 3, 4, 5, 6, 7, 8, 9]⟩,
  ⟨(some 5), .mv (.d (.int .i64 0)), none, [10, 0, 1, 2, 3, 4, 5, 6, 7, 8, 9, 10]⟩])
.ret)))
theorem r_nat_Shl : fnOf Tryd.prog n_nat_Shl = some (c_nat_Shl, [.cell 4 true 1, .t 5], 23, false) := by kernel_rfl

/-- tallymark/nat.Cmp -/
abbrev n_nat_Cmp : FuncId := 11
def c_nat_Cmp : C := (.seq (.reg false [⟨(some 2), .box 25 (.t 0), none, []⟩,
  ⟨(some 3), .box 25 (.t 1), none, []⟩,
  ⟨(some 4), .mv (.d (.int .i64 0)), none, []⟩])
(.seq (.seq (.reg false [⟨(some 9), .fa 0 (.t 2), none, []⟩,
  ⟨(some 10), .load false 1 (.t 9), none, [0]⟩,
  ⟨(some 11), .len (.t 10), none, [1]⟩,
  ⟨(some 12), .fa 0 (.t 3), none, []⟩,
  ⟨(some 13), .load false 1 (.t 12), none, [3]⟩,
  ⟨(some 14), .len (.t 13), none, [4]⟩,
  ⟨(some 15), .bin .sub (.t 11) (.t 14), none, [2, 5]⟩,
  ⟨(some 5), .mv (.t 15), none, [6, 0, 1, 2, 3, 4, 5, 6]⟩])
(.seq (.reg false [⟨(some 16), .mv (.t 5), none, []⟩,
  ⟨(some 17), .bin .neq (.t 16) (.d (.int .i64 0)), none, [0]⟩])
(.cond (.t 17)
 (.seq (.reg false [⟨(some 18), .mv (.t 5), none, []⟩,
   ⟨(some 19), .mm false [(.t 18), (.d (.int .i64 1))], none, [0]⟩,
   ⟨(some 20), .mm true [(.d (.int .i64 (-1))), (.t 19)], none, [1]⟩,
   ⟨(some 4), .mv (.t 20), none, [2, 0, 1, 2]⟩])
 .ret)
 .skip)))
(.seq (.seq (.reg false [⟨(some 21), .fa 0 (.t 2), none, []⟩,
  ⟨(some 22), .load false 1 (.t 21), none, [0]⟩,
  ⟨(some 23), .len (.t 22), none, [1]⟩,
  ⟨(some 24), .bin .sub (.t 23) (.d (.int .i64 1)), none, [2]⟩,
  ⟨(some 6), .mv (.t 24), none, [3, 0, 1, 2, 3]⟩])
(.block 0 (.loop (.seq (.seq (.reg false [⟨(some 25), .mv (.t 6), none, []⟩,
  ⟨(some 26), .bin .geq (.t 25) (.d (.int .i64 0)), none, [0]⟩])
(.cond (.t 26)
 .skip
 (.exit 0)))
(.seq (.block 1 (.seq (.reg true [⟨(some 29), .fa 0 (.t 2), none, []⟩,
  ⟨(some 30), .load false 1 (.t 29), none, [0]⟩,
  ⟨(some 31), .mv (.t 6), none, []⟩,
  ⟨(some 32), .ix 1 (.t 30) (.t 31), none, [1, 2]⟩,
  ⟨(some 33), .load false 1 (.t 32), none, [3]⟩,
  ⟨(some 34), .fa 0 (.t 3), none, []⟩,
  ⟨(some 35), .load false 1 (.t 34), none, [5]⟩,
  ⟨(some 36), .mv (.t 6), none, []⟩,
  ⟨(some 37), .ix 1 (.t 35) (.t 36), none, [6, 7]⟩,
  ⟨(some 38), .load false 1 (.t 37), none, [8]⟩,
  ⟨(some 7), .mv (.t 33), none, [4, 0, 1, 2, 3, 4]⟩,
  ⟨(some 8), .mv (.t 38), none, [9, 10, 0, 1, 2, 3, 4, 5, 6, 7, 8, 9, 10]⟩])
(.block 2 (.seq (.reg false [⟨(some 40), .mv (.t 7), none, []⟩,
  ⟨(some 41), .mv (.t 8), none, []⟩,
  ⟨(some 42), .bin .lss (.t 40) (.t 41), none, [0, 1]⟩,
  ⟨(some 39), .mv (.t 42), none, [2]⟩])
(.cond (.t 39)
 (.seq (.reg false [⟨(some 4), .mv (.d (.int .i64 (-1))), none, []⟩])
 .ret)
 (.seq (.reg false [⟨(some 44), .mv (.t 7), none, []⟩,
   ⟨(some 45), .mv (.t 8), none, []⟩,
   ⟨(some 46), .bin .gtr (.t 44) (.t 45), none, [0, 1]⟩,
   ⟨(some 43), .mv (.t 46), none, [2]⟩])
 (.cond (.t 43)
  (.seq (.reg false [⟨(some 4), .mv (.d (.int .i64 1)), none, []⟩])
  .ret)
  .skip)))))))
(.reg false [⟨(some 27), .mv (.t 6), none, []⟩,
  ⟨(some 28), .bin .sub (.t 27) (.d (.int .i64 1)), none, [0]⟩,
  ⟨(some 6), .mv (.t 28), none, [1, 0, 1]⟩]))))))
(.seq (.reg false [⟨(some 4), .mv (.d (.int .i64 0)), none, []⟩])
.ret))))
theorem r_nat_Cmp : fnOf Tryd.prog n_nat_Cmp = some (c_nat_Cmp, [.t 4], 47, false) := by kernel_rfl

/-- math/bits.Sub64 -/
abbrev n_math_bits_Sub64 : FuncId := 78
theorem x_math_bits_Sub64 : Tryd.prog.funcs[n_math_bits_Sub64]? = some Tryd.f78 := Tryd.func78
/-- tallymark/nat.Sub -/
abbrev n_nat_Sub : FuncId := 52
def c_nat_Sub : C := (.seq (.reg false [⟨(some 2), .box 25 (.t 0), none, []⟩,
  ⟨(some 3), .box 25 (.t 1), none, []⟩,
  ⟨(some 4), .new 25 [.nilsl], none, []⟩,
  ⟨(some 5), .mv (.d (.int .i64 0)), none, []⟩])
(.seq (.seq (.reg false [⟨(some 11), .load true 1 (.t 2), none, []⟩,
  ⟨(some 12), .load true 1 (.t 3), none, []⟩,
  ⟨(some 13), .call 11 [(.t 11), (.t 12)], none, [0, 1]⟩,
  ⟨(some 14), .bin .lss (.t 13) (.d (.int .i64 0)), none, [2]⟩])
(.cond (.t 14)
 (.seq (.reg false [⟨(some 15), .build [.nilsl] [], none, []⟩,
   ⟨none, .store 1 (.t 4) (.t 15), none, [0, 0]⟩,
   ⟨(some 5), .mv (.d (.int .i64 2)), none, [1, 0, 1]⟩])
 .ret)
 .skip))
(.seq (.reg false [⟨(some 16), .fa 0 (.t 2), none, []⟩,
  ⟨(some 17), .load false 1 (.t 16), none, [0]⟩,
  ⟨(some 18), .len (.t 17), none, [1]⟩,
  ⟨(some 19), .mksl 34 1 8 [(.int .u64 0)] (.t 18) (.t 18), none, [2, 2]⟩,
  ⟨(some 6), .mv (.t 19), none, [3, 0, 1, 2, 3]⟩])
(.seq (.reg false [⟨(some 7), .mv (.d (.int .u64 0)), none, []⟩])
(.seq (.seq (.reg false [⟨(some 20), .fa 0 (.t 2), none, []⟩,
  ⟨(some 21), .load false 1 (.t 20), none, [0]⟩,
  ⟨(some 22), .len (.t 21), none, [1]⟩,
  ⟨(some 23), .mv (.d (.int .i64 0)), none, []⟩])
(.block 0 (.loop (.seq (.reg false [⟨(some 24), .bin .lss (.t 23) (.t 22), none, []⟩])
(.seq (.cond (.t 24)
 .skip
 (.exit 0))
(.seq (.block 1 (.seq (.reg false [⟨(some 25), .mv (.t 23), none, []⟩,
  ⟨(some 26), .ix 1 (.t 21) (.t 23), none, []⟩,
  ⟨(some 27), .load false 1 (.t 26), none, [1]⟩,
  ⟨(some 8), .mv (.t 25), none, [0, 0, 1, 2]⟩,
  ⟨(some 9), .mv (.t 27), none, [2, 3, 0, 1, 2, 3]⟩])
(.seq (.reg false [⟨(some 10), .mv (.d (.int .u64 0)), none, []⟩])
(.seq (.seq (.reg false [⟨(some 28), .mv (.t 8), none, []⟩,
  ⟨(some 29), .fa 0 (.t 3), none, []⟩,
  ⟨(some 30), .load false 1 (.t 29), none, [1]⟩,
  ⟨(some 31), .len (.t 30), none, [2]⟩,
  ⟨(some 32), .bin .lss (.t 28) (.t 31), none, [0, 3]⟩])
(.cond (.t 32)
 (.reg false [⟨(some 33), .fa 0 (.t 3), none, []⟩,
   ⟨(some 34), .load false 1 (.t 33), none, [0]⟩,
   ⟨(some 35), .mv (.t 8), none, []⟩,
   ⟨(some 36), .ix 1 (.t 34) (.t 35), none, [1, 2]⟩,
   ⟨(some 37), .load false 1 (.t 36), none, [3]⟩,
   ⟨(some 10), .mv (.t 37), none, [4, 0, 1, 2, 3, 4]⟩])
 .skip))
(.reg false [⟨(some 39), .mv (.t 6), none, []⟩,
  ⟨(some 40), .mv (.t 8), none, []⟩,
  ⟨(some 41), .mv (.t 9), none, []⟩,
  ⟨(some 42), .mv (.t 10), none, []⟩,
  ⟨(some 43), .mv (.t 7), none, []⟩,
  ⟨(some 44), .call 78 [(.t 41), (.t 42), (.t 43)], none, [2, 3, 4]⟩,
  ⟨(some 38), .mv (.t 44), none, [5]⟩,
  ⟨(some 45), .ext (.t 38) 0, none, [6]⟩,
  ⟨(some 46), .ext (.t 38) 1, none, [6]⟩,
  ⟨(some 47), .ix 1 (.t 39) (.t 40), none, [0, 1, 0, 1, 2, 3, 4, 5, 6, 7]⟩,
  ⟨none, .store 1 (.t 47) (.t 45), none, [9, 7, 5, 0, 1, 2, 3, 4, 5, 6, 7]⟩,
  ⟨(some 7), .mv (.t 46), none, [8, 10, 0, 1, 2, 3, 4, 5, 6, 7, 8, 9, 10]⟩])))))
(.reg false [⟨(some 48), .bin .add (.t 23) (.d (.int .i64 1)), none, []⟩,
  ⟨(some 23), .mv (.t 48), none, [0]⟩])))))))
(.seq (.reg false [⟨(some 49), .mv (.t 6), none, []⟩,
  ⟨(some 50), .call 42 [(.t 49)], none, [0]⟩,
  ⟨none, .store 1 (.t 4) (.t 50), none, [1, 1, 0, 1]⟩,
  ⟨(some 5), .mv (.d (.int .i64 0)), none, [2, 0, 1, 2]⟩])
.ret))))))
theorem r_nat_Sub : fnOf Tryd.prog n_nat_Sub = some (c_nat_Sub, [.cell 4 true 1, .t 5], 51, false) := by kernel_rfl

/-- tallymark/float.Value -/
abbrev n_float_Value : FuncId := 25
def c_float_Value : C := (.seq (.reg false [⟨(some 4), .new 25 [.nilsl], none, []⟩,
  ⟨(some 5), .mv (.d (.int .i64 0)), none, []⟩])
(.seq (.seq (.reg false [⟨(some 11), .mv (.t 0), none, []⟩,
  ⟨(some 12), .mv (.t 1), none, []⟩,
  ⟨(some 13), .bsl 3 1 1 [(.int .i64 0)] [(0, 1, (.t 12))], none, [1]⟩,
  ⟨(some 14), .call 50 [(.t 11), (.t 13)], none, [0, 2]⟩,
  ⟨(some 6), .mv (.t 14), none, [3, 3, 0, 1, 2, 3]⟩])
(.seq (.reg false [⟨(some 15), .mv (.t 6), none, []⟩,
  ⟨(some 16), .bin .neq (.t 15) (.d (.int .i64 0)), none, [0]⟩])
(.cond (.t 16)
 (.seq (.reg false [⟨(some 17), .build [.nilsl] [], none, []⟩,
   ⟨(some 18), .mv (.t 6), none, []⟩,
   ⟨none, .store 1 (.t 4) (.t 17), none, [0, 0]⟩,
   ⟨(some 5), .mv (.t 18), none, [1, 2, 0, 1, 2]⟩])
 .ret)
 .skip)))
(.seq (.reg false [⟨(some 20), .mv (.t 0), none, []⟩,
  ⟨(some 21), .mv (.t 1), none, []⟩,
  ⟨(some 22), .call 51 [(.t 20), (.t 21)], none, [0, 1]⟩,
  ⟨(some 19), .mv (.t 22), none, [2]⟩,
  ⟨(some 23), .ext (.t 19) 0, none, [3]⟩,
  ⟨(some 24), .ext (.t 19) 1, none, [3]⟩,
  ⟨(some 7), .mv (.t 23), none, [4, 2, 0, 1, 2, 3, 4]⟩,
  ⟨(some 8), .mv (.t 24), none, [5, 6, 0, 1, 2, 3, 4, 5, 6]⟩])
(.seq (.reg false [⟨(some 26), .mv (.t 0), none, []⟩,
  ⟨(some 27), .bin .shl (.d (.int .i64 1)) (.t 26), none, [0]⟩,
  ⟨(some 28), .mv (.t 8), none, []⟩,
  ⟨(some 29), .bin .add (.t 27) (.t 28), none, [1, 2]⟩,
  ⟨(some 30), .conv .u64 (.t 29), none, [3]⟩,
  ⟨(some 31), .bsl 34 1 1 [(.int .u64 0)] [(0, 1, (.t 30))], none, [4]⟩,
  ⟨(some 32), .call 13 [(.t 31)], none, [5]⟩,
  ⟨(some 33), .mv (.t 7), none, []⟩,
  ⟨(some 34), .call 14 [(.t 32), (.t 33)], none, [6, 7, 6]⟩,
  ⟨(some 25), .mv (.t 34), none, [8]⟩,
  ⟨(some 35), .ext (.t 25) 0, none, [9]⟩,
  ⟨(some 36), .ext (.t 25) 1, none, [9]⟩,
  ⟨(some 9), .new 25 [.nilsl], none, []⟩,
  ⟨none, .store 1 (.t 9) (.t 35), none, [12, 10, 8, 0, 1, 2, 3, 4, 5, 6, 7, 8, 9, 10, 12]⟩,
  ⟨(some 10), .mv (.t 36), none, [11, 13, 0, 1, 2, 3, 4, 5, 6, 7, 8, 9, 10, 11, 12, 13]⟩])
(.seq (.reg true [⟨(some 37), .load true 1 (.t 9), none, []⟩,
  ⟨(some 38), .mv (.t 0), none, []⟩,
  ⟨(some 39), .bin .shl (.d (.int .u64 1)) (.t 38), none, [1]⟩,
  ⟨(some 40), .bsl 34 1 1 [(.int .u64 0)] [(0, 1, (.t 39))], none, [2]⟩,
  ⟨(some 41), .call 13 [(.t 40)], none, [3]⟩,
  ⟨(some 42), .call 52 [(.t 37), (.t 41)], none, [0, 4, 4]⟩,
  ⟨(some 43), .ext (.t 42) 0, none, [5]⟩,
  ⟨(some 44), .ext (.t 42) 1, none, [5]⟩,
  ⟨none, .store 1 (.t 4) (.t 43), none, [6, 5, 0, 1, 2, 3, 4, 5, 6, 7]⟩,
  ⟨(some 5), .mv (.t 44), none, [7, 8, 0, 1, 2, 3, 4, 5, 6, 7, 8]⟩])
.ret)))))
theorem r_float_Value : fnOf Tryd.prog n_float_Value = some (c_float_Value, [.cell 4 true 1, .t 5], 45, false) := by kernel_rfl

/-- (tallymark/nat.Nat).Zero -/
abbrev n_nat_Nat_Zero : FuncId := 29
def c_nat_Nat_Zero : C := (.seq (.reg false [⟨(some 1), .box 25 (.t 0), none, []⟩,
  ⟨(some 2), .mv (.d (.bool false)), none, []⟩])
(.seq (.reg false [⟨(some 3), .fa 0 (.t 1), none, []⟩,
  ⟨(some 4), .load false 1 (.t 3), none, [0]⟩,
  ⟨(some 5), .len (.t 4), none, [1]⟩,
  ⟨(some 6), .bin .eql (.t 5) (.d (.int .i64 0)), none, [2]⟩,
  ⟨(some 2), .mv (.t 6), none, [3, 0, 1, 2, 3]⟩])
.ret))
theorem r_nat_Nat_Zero : fnOf Tryd.prog n_nat_Nat_Zero = some (c_nat_Nat_Zero, [.t 2], 7, false) := by kernel_rfl

/-- tallymark/whole.Make -/
abbrev n_whole_Make : FuncId := 82
def c_whole_Make : C := (.seq (.reg false [⟨(some 3), .box 25 (.t 1), none, []⟩,
  ⟨(some 4), .new 54 [.nilsl, (.bool false)], none, []⟩])
(.seq (.reg true [⟨(some 5), .load true 1 (.t 3), none, []⟩,
  ⟨(some 6), .mv (.t 0), none, []⟩,
  ⟨(some 7), .mv (.t 6), none, [1]⟩,
  ⟨(some 8), .load true 1 (.t 3), some (7, true), [2]⟩,
  ⟨(some 9), .call 29 [(.t 8)], some (7, true), [3, 2, 2]⟩,
  ⟨(some 10), .un .not (.t 9), some (7, true), [4, 2]⟩,
  ⟨(some 11), .pick (.t 7) (.t 10) (.d (.bool false)), none, [2, 5]⟩,
  ⟨(some 12), .build [.nilsl, (.bool false)] [(0, 1, (.t 5)), (1, 1, (.t 11))], none, [0, 6]⟩,
  ⟨none, .store 2 (.t 4) (.t 12), none, [7, 4, 0, 1, 2, 3, 4, 5, 6, 7]⟩])
.ret))
theorem r_whole_Make : fnOf Tryd.prog n_whole_Make = some (c_whole_Make, [.cell 4 true 2], 13, false) := by kernel_rfl

/-- tallymark/whole.Of -/
abbrev n_whole_Of : FuncId := 57
def c_whole_Of : C := (.seq (.reg false [⟨(some 2), .new 54 [.nilsl, (.bool false)], none, []⟩])
(.seq (.seq (.reg false [⟨(some 3), .mv (.t 0), none, []⟩,
  ⟨(some 4), .bin .lss (.t 3) (.d (.int .i64 0)), none, [0]⟩])
(.cond (.t 4)
 (.seq (.reg false [⟨(some 5), .mv (.t 0), none, []⟩,
   ⟨(some 6), .conv .u64 (.t 5), none, [0]⟩,
   ⟨(some 7), .un .neg (.t 6), none, [1]⟩,
   ⟨(some 8), .bsl 34 1 1 [(.int .u64 0)] [(0, 1, (.t 7))], none, [2]⟩,
   ⟨(some 9), .call 13 [(.t 8)], none, [3]⟩,
   ⟨(some 10), .call 82 [(.d (.bool true)), (.t 9)], none, [4, 4]⟩,
   ⟨none, .store 2 (.t 2) (.t 10), none, [5, 5, 0, 1, 2, 3, 4, 5]⟩])
 .ret)
 .skip))
(.seq (.reg false [⟨(some 11), .mv (.t 0), none, []⟩,
  ⟨(some 12), .conv .u64 (.t 11), none, [0]⟩,
  ⟨(some 13), .bsl 34 1 1 [(.int .u64 0)] [(0, 1, (.t 12))], none, [1]⟩,
  ⟨(some 14), .call 13 [(.t 13)], none, [2]⟩,
  ⟨(some 15), .call 82 [(.d (.bool false)), (.t 14)], none, [3, 3]⟩,
  ⟨none, .store 2 (.t 2) (.t 15), none, [4, 4, 0, 1, 2, 3, 4]⟩])
.ret)))
theorem r_whole_Of : fnOf Tryd.prog n_whole_Of = some (c_whole_Of, [.cell 2 true 2], 16, false) := by kernel_rfl

/-- (tallymark/whole.Whole).Abs -/
abbrev n_whole_Whole_Abs : FuncId := 80
def c_whole_Whole_Abs : C := (.seq (.reg false [⟨(some 1), .box 54 (.t 0), none, []⟩,
  ⟨(some 2), .new 25 [.nilsl], none, []⟩])
(.seq (.reg false [⟨(some 3), .fa 0 (.t 1), none, []⟩,
  ⟨(some 4), .load true 1 (.t 3), none, [0]⟩,
  ⟨none, .store 1 (.t 2) (.t 4), none, [1, 0, 1]⟩])
.ret))
theorem r_whole_Whole_Abs : fnOf Tryd.prog n_whole_Whole_Abs = some (c_whole_Whole_Abs, [.cell 2 true 1], 5, false) := by kernel_rfl

/-- math/bits.Len64 -/
abbrev n_math_bits_Len64 : FuncId := 100
def c_math_bits_Len64 : C := (.seq (.reg false [⟨(some 2), .mv (.d (.int .i64 0)), none, []⟩])
(.seq (.seq (.reg false [⟨(some 3), .mv (.t 0), none, []⟩,
  ⟨(some 4), .bin .geq (.t 3) (.d (.int .u64 4294967296)), none, [0]⟩])
(.cond (.t 4)
 (.seq (.reg false [⟨(some 5), .mv (.t 0), none, []⟩,
   ⟨(some 6), .bin .shr (.t 5) (.d (.int .u64 32)), none, [0]⟩,
   ⟨(some 0), .mv (.t 6), none, [1, 0, 1]⟩])
 (.reg false [⟨(some 2), .mv (.d (.int .i64 32)), none, []⟩]))
 .skip))
(.seq (.seq (.reg false [⟨(some 7), .mv (.t 0), none, []⟩,
  ⟨(some 8), .bin .geq (.t 7) (.d (.int .u64 65536)), none, [0]⟩])
(.cond (.t 8)
 (.seq (.reg false [⟨(some 9), .mv (.t 0), none, []⟩,
   ⟨(some 10), .bin .shr (.t 9) (.d (.int .u64 16)), none, [0]⟩,
   ⟨(some 0), .mv (.t 10), none, [1, 0, 1]⟩])
 (.reg false [⟨(some 11), .mv (.t 2), none, []⟩,
   ⟨(some 12), .bin .add (.t 11) (.d (.int .i64 16)), none, [0]⟩,
   ⟨(some 2), .mv (.t 12), none, [1, 0, 1]⟩]))
 .skip))
(.seq (.seq (.reg false [⟨(some 13), .mv (.t 0), none, []⟩,
  ⟨(some 14), .bin .geq (.t 13) (.d (.int .u64 256)), none, [0]⟩])
(.cond (.t 14)
 (.seq (.reg false [⟨(some 15), .mv (.t 0), none, []⟩,
   ⟨(some 16), .bin .shr (.t 15) (.d (.int .u64 8)), none, [0]⟩,
   ⟨(some 0), .mv (.t 16), none, [1, 0, 1]⟩])
 (.reg false [⟨(some 17), .mv (.t 2), none, []⟩,
   ⟨(some 18), .bin .add (.t 17) (.d (.int .i64 8)), none, [0]⟩,
   ⟨(some 2), .mv (.t 18), none, [1, 0, 1]⟩]))
 .skip))
(.seq (.reg false [⟨(some 19), .mv (.t 2), none, []⟩,
  ⟨(some 20), .mv (.t 0), none, []⟩,
  ⟨(some 21), .conv .u8 (.t 20), none, [1]⟩,
  ⟨(some 22), .gstr (.d (.str ⟨#[0, 1, 2, 2, 3, 3, 3, 3, 4, 4, 4, 4, 4, 4, 4, 4, 5, 5, 5, 5, 5, 5, 5, 5, 5, 5, 5, 5, 5, 5, 5, 5, 6, 6, 6, 6, 6, 6, 6, 6, 6, 6, 6, 6, 6, 6, 6, 6, 6, 6, 6, 6, 6, 6, 6, 6, 6, 6, 6, 6, 6, 6, 6, 6, 7, 7, 7, 7, 7, 7, 7, 7, 7, 7, 7, 7, 7, 7, 7, 7, 7, 7, 7, 7, 7, 7, 7, 7, 7, 7, 7, 7, 7, 7, 7, 7, 7, 7, 7, 7, 7, 7, 7, 7, 7, 7, 7, 7, 7, 7, 7, 7, 7, 7, 7, 7, 7, 7, 7, 7, 7, 7, 7, 7, 7, 7, 7, 7, 8, 8, 8, 8, 8, 8, 8, 8, 8, 8, 8, 8, 8, 8, 8, 8, 8, 8, 8, 8, 8, 8, 8, 8, 8, 8, 8, 8, 8, 8, 8, 8, 8, 8, 8, 8, 8, 8, 8, 8, 8, 8, 8, 8, 8, 8, 8, 8, 8, 8, 8, 8, 8, 8, 8, 8, 8, 8, 8, 8, 8, 8, 8, 8, 8, 8, 8, 8, 8, 8, 8, 8, 8, 8, 8, 8, 8, 8, 8, 8, 8, 8, 8, 8, 8, 8, 8, 8, 8, 8, 8, 8, 8, 8, 8, 8, 8, 8, 8, 8, 8, 8, 8, 8, 8, 8, 8, 8, 8, 8, 8, 8, 8, 8, 8, 8, 8, 8, 8, 8, 8, 8, 8, 8, 8, 8, 8, 8]⟩)) (.t 21), none, [2]⟩,
  ⟨(some 23), .conv .i64 (.t 22), none, [3]⟩,
  ⟨(some 24), .bin .add (.t 19) (.t 23), none, [0, 4]⟩,
  ⟨(some 2), .mv (.t 24), none, [5, 0, 1, 2, 3, 4, 5]⟩])
.ret)))))
theorem r_math_bits_Len64 : fnOf Tryd.prog n_math_bits_Len64 = some (c_math_bits_Len64, [.t 2], 25, false) := by kernel_rfl

/-- math/bits.LeadingZeros64 -/
abbrev n_math_bits_LeadingZeros64 : FuncId := 88
def c_math_bits_LeadingZeros64 : C := (.seq (.reg false [⟨(some 2), .mv (.d (.int .i64 0)), none, []⟩])
(.seq (.reg false [⟨(some 3), .mv (.t 0), none, []⟩,
  ⟨(some 4), .call 100 [(.t 3)], none, [0]⟩,
  ⟨(some 5), .bin .sub (.d (.int .i64 64)) (.t 4), none, [1]⟩,
  ⟨(some 2), .mv (.t 5), none, [2, 1, 0, 1, 2]⟩])
.ret))
theorem r_math_bits_LeadingZeros64 : fnOf Tryd.prog n_math_bits_LeadingZeros64 = some (c_math_bits_LeadingZeros64, [.t 2], 6, false) := by kernel_rfl

/-- tallymark/nat.split -/
abbrev n_nat_split : FuncId := 41
def c_nat_split : C := (.seq (.reg false [⟨(some 4), .mv (.d .nilsl), none, []⟩,
  ⟨(some 5), .mv (.d (.int .u64 0)), none, [0]⟩])
(.seq (.reg false [⟨(some 9), .mv (.t 0), none, []⟩,
  ⟨(some 10), .len (.t 9), none, [0]⟩,
  ⟨(some 11), .mksl 34 1 8 [(.int .u64 0)] (.t 10) (.t 10), none, [1, 1]⟩,
  ⟨(some 6), .mv (.t 11), none, [2, 0, 1, 2]⟩])
(.seq (.reg false [⟨(some 7), .mv (.d (.int .u64 0)), none, []⟩])
(.seq (.seq (.reg false [⟨(some 12), .mv (.t 0), none, []⟩,
  ⟨(some 13), .len (.t 12), none, [0]⟩,
  ⟨(some 14), .bin .sub (.t 13) (.d (.int .i64 1)), none, [1]⟩,
  ⟨(some 8), .mv (.t 14), none, [2, 0, 1, 2]⟩])
(.block 0 (.loop (.seq (.seq (.reg false [⟨(some 15), .mv (.t 8), none, []⟩,
  ⟨(some 16), .bin .geq (.t 15) (.d (.int .i64 0)), none, [0]⟩])
(.cond (.t 16)
 .skip
 (.exit 0)))
(.seq (.block 1 (.reg false [⟨(some 20), .mv (.t 6), none, []⟩,
  ⟨(some 21), .mv (.t 8), none, []⟩,
  ⟨(some 22), .mv (.t 7), none, []⟩,
  ⟨(some 23), .mv (.t 0), none, []⟩,
  ⟨(some 24), .mv (.t 8), none, []⟩,
  ⟨(some 25), .ix 1 (.t 23) (.t 24), none, [3, 4]⟩,
  ⟨(some 26), .load false 1 (.t 25), none, [5]⟩,
  ⟨(some 27), .mv (.t 1), none, []⟩,
  ⟨(some 28), .call 69 [(.t 22), (.t 26), (.t 27)], none, [2, 6, 7]⟩,
  ⟨(some 19), .mv (.t 28), none, [8]⟩,
  ⟨(some 29), .ext (.t 19) 0, none, [9]⟩,
  ⟨(some 30), .ext (.t 19) 1, none, [9]⟩,
  ⟨(some 31), .ix 1 (.t 20) (.t 21), none, [0, 1, 0, 1, 2, 3, 4, 5, 6, 7, 8, 9, 10]⟩,
  ⟨none, .store 1 (.t 31) (.t 29), none, [12, 10, 8, 0, 1, 2, 3, 4, 5, 6, 7, 8, 9, 10]⟩,
  ⟨(some 7), .mv (.t 30), none, [11, 13, 0, 1, 2, 3, 4, 5, 6, 7, 8, 9, 10, 11, 12, 13]⟩]))
(.reg false [⟨(some 17), .mv (.t 8), none, []⟩,
  ⟨(some 18), .bin .sub (.t 17) (.d (.int .i64 1)), none, [0]⟩,
  ⟨(some 8), .mv (.t 18), none, [1, 0, 1]⟩]))))))
(.seq (.reg false [⟨(some 32), .mv (.t 6), none, []⟩,
  ⟨(some 33), .mv (.t 7), none, []⟩,
  ⟨(some 4), .mv (.t 32), none, [0, 0]⟩,
  ⟨(some 5), .mv (.t 33), none, [1, 2, 0, 1, 2]⟩])
.ret)))))
theorem r_nat_split : fnOf Tryd.prog n_nat_split = some (c_nat_split, [.t 4, .t 5], 34, false) := by kernel_rfl

/-- math/bits.Mul64 -/
abbrev n_math_bits_Mul64 : FuncId := 85
def c_math_bits_Mul64 : C := (.seq (.reg false [⟨(some 4), .mv (.d (.int .u64 0)), none, []⟩,
  ⟨(some 5), .mv (.d (.int .u64 0)), none, [0]⟩])
(.seq (.reg false [⟨(some 14), .mv (.t 0), none, []⟩,
  ⟨(some 15), .bin .and (.t 14) (.d (.int .u64 4294967295)), none, [0]⟩,
  ⟨(some 6), .mv (.t 15), none, [1, 0, 1]⟩])
(.seq (.reg false [⟨(some 16), .mv (.t 0), none, []⟩,
  ⟨(some 17), .bin .shr (.t 16) (.d (.int .u64 32)), none, [0]⟩,
  ⟨(some 7), .mv (.t 17), none, [1, 0, 1]⟩])
(.seq (.reg false [⟨(some 18), .mv (.t 1), none, []⟩,
  ⟨(some 19), .bin .and (.t 18) (.d (.int .u64 4294967295)), none, [0]⟩,
  ⟨(some 8), .mv (.t 19), none, [1, 0, 1]⟩])
(.seq (.reg false [⟨(some 20), .mv (.t 1), none, []⟩,
  ⟨(some 21), .bin .shr (.t 20) (.d (.int .u64 32)), none, [0]⟩,
  ⟨(some 9), .mv (.t 21), none, [1, 0, 1]⟩])
(.seq (.reg false [⟨(some 22), .mv (.t 6), none, []⟩,
  ⟨(some 23), .mv (.t 8), none, []⟩,
  ⟨(some 24), .bin .mul (.t 22) (.t 23), none, [0, 1]⟩,
  ⟨(some 10), .mv (.t 24), none, [2, 0, 1, 2]⟩])
(.seq (.reg false [⟨(some 25), .mv (.t 7), none, []⟩,
  ⟨(some 26), .mv (.t 8), none, []⟩,
  ⟨(some 27), .bin .mul (.t 25) (.t 26), none, [0, 1]⟩,
  ⟨(some 28), .mv (.t 10), none, []⟩,
  ⟨(some 29), .bin .shr (.t 28) (.d (.int .u64 32)), none, [3]⟩,
  ⟨(some 30), .bin .add (.t 27) (.t 29), none, [2, 4]⟩,
  ⟨(some 11), .mv (.t 30), none, [5, 0, 1, 2, 3, 4, 5]⟩])
(.seq (.reg false [⟨(some 31), .mv (.t 11), none, []⟩,
  ⟨(some 32), .bin .and (.t 31) (.d (.int .u64 4294967295)), none, [0]⟩,
  ⟨(some 12), .mv (.t 32), none, [1, 0, 1]⟩])
(.seq (.reg false [⟨(some 33), .mv (.t 11), none, []⟩,
  ⟨(some 34), .bin .shr (.t 33) (.d (.int .u64 32)), none, [0]⟩,
  ⟨(some 13), .mv (.t 34), none, [1, 0, 1]⟩])
(.seq (.reg false [⟨(some 35), .mv (.t 12), none, []⟩,
  ⟨(some 36), .mv (.t 6), none, []⟩,
  ⟨(some 37), .mv (.t 9), none, []⟩,
  ⟨(some 38), .bin .mul (.t 36) (.t 37), none, [1, 2]⟩,
  ⟨(some 39), .bin .add (.t 35) (.t 38), none, [0, 3]⟩,
  ⟨(some 12), .mv (.t 39), none, [4, 0, 1, 2, 3, 4]⟩])
(.seq (.reg false [⟨(some 40), .mv (.t 7), none, []⟩,
  ⟨(some 41), .mv (.t 9), none, []⟩,
  ⟨(some 42), .bin .mul (.t 40) (.t 41), none, [0, 1]⟩,
  ⟨(some 43), .mv (.t 13), none, []⟩,
  ⟨(some 44), .bin .add (.t 42) (.t 43), none, [2, 3]⟩,
  ⟨(some 45), .mv (.t 12), none, []⟩,
  ⟨(some 46), .bin .shr (.t 45) (.d (.int .u64 32)), none, [5]⟩,
  ⟨(some 47), .bin .add (.t 44) (.t 46), none, [4, 6]⟩,
  ⟨(some 4), .mv (.t 47), none, [7, 0, 1, 2, 3, 4, 5, 6, 7]⟩])
(.seq (.reg false [⟨(some 48), .mv (.t 0), none, []⟩,
  ⟨(some 49), .mv (.t 1), none, []⟩,
  ⟨(some 50), .bin .mul (.t 48) (.t 49), none, [0, 1]⟩,
  ⟨(some 5), .mv (.t 50), none, [2, 0, 1, 2]⟩])
.ret))))))))))))
theorem r_math_bits_Mul64 : fnOf Tryd.prog n_math_bits_Mul64 = some (c_math_bits_Mul64, [.t 4, .t 5], 51, false) := by kernel_rfl

/-- math/bits.Add64 -/
abbrev n_math_bits_Add64 : FuncId := 47
theorem x_math_bits_Add64 : Tryd.prog.funcs[n_math_bits_Add64]? = some Tryd.f47 := Tryd.func47
/-- tallymark/nat.take -/
abbrev n_nat_take : FuncId := 110
def c_nat_take : C := (.seq (.reg false [⟨(some 6), .mv (.d (.int .i64 0)), none, []⟩])
(.seq (.reg false [⟨(some 7), .mv (.d (.int .u64 0)), none, []⟩,
  ⟨(some 8), .mv (.d (.int .u64 0)), none, [0]⟩])
(.seq (.seq (.reg false [⟨(some 15), .mv (.t 1), none, []⟩,
  ⟨(some 16), .len (.t 15), none, [0]⟩,
  ⟨(some 17), .mv (.d (.int .i64 0)), none, []⟩])
(.block 0 (.loop (.seq (.reg false [⟨(some 18), .bin .lss (.t 17) (.t 16), none, []⟩])
(.seq (.cond (.t 18)
 .skip
 (.exit 0))
(.seq (.block 1 (.seq (.reg false [⟨(some 19), .mv (.t 17), none, []⟩,
  ⟨(some 20), .ix 1 (.t 15) (.t 17), none, []⟩,
  ⟨(some 21), .load false 1 (.t 20), none, [1]⟩,
  ⟨(some 9), .mv (.t 19), none, [0, 0, 1, 2]⟩,
  ⟨(some 10), .mv (.t 21), none, [2, 3, 0, 1, 2, 3]⟩])
(.seq (.reg false [⟨(some 23), .mv (.t 10), none, []⟩,
  ⟨(some 24), .mv (.t 2), none, []⟩,
  ⟨(some 25), .call 85 [(.t 23), (.t 24)], none, [0, 1]⟩,
  ⟨(some 22), .mv (.t 25), none, [2]⟩,
  ⟨(some 26), .ext (.t 22) 0, none, [3]⟩,
  ⟨(some 27), .ext (.t 22) 1, none, [3]⟩,
  ⟨(some 11), .mv (.t 26), none, [4, 2, 0, 1, 2, 3, 4]⟩,
  ⟨(some 12), .mv (.t 27), none, [5, 6, 0, 1, 2, 3, 4, 5, 6]⟩])
(.seq (.reg false [⟨(some 13), .mv (.d (.int .u64 0)), none, []⟩])
(.seq (.reg false [⟨(some 29), .mv (.t 12), none, []⟩,
  ⟨(some 30), .mv (.t 7), none, []⟩,
  ⟨(some 31), .call 47 [(.t 29), (.t 30), (.d (.int .u64 0))], none, [0, 1]⟩,
  ⟨(some 28), .mv (.t 31), none, [2]⟩,
  ⟨(some 32), .ext (.t 28) 0, none, [3]⟩,
  ⟨(some 33), .ext (.t 28) 1, none, [3]⟩,
  ⟨(some 12), .mv (.t 32), none, [4, 2, 0, 1, 2, 3, 4]⟩,
  ⟨(some 13), .mv (.t 33), none, [5, 6, 0, 1, 2, 3, 4, 5, 6]⟩])
(.seq (.reg false [⟨(some 34), .mv (.t 11), none, []⟩,
  ⟨(some 35), .mv (.t 13), none, []⟩,
  ⟨(some 36), .bin .add (.t 34) (.t 35), none, [0, 1]⟩,
  ⟨(some 7), .mv (.t 36), none, [2, 0, 1, 2]⟩])
(.reg false [⟨(some 38), .mv (.t 0), none, []⟩,
  ⟨(some 39), .mv (.t 9), none, []⟩,
  ⟨(some 40), .mv (.t 0), none, []⟩,
  ⟨(some 41), .mv (.t 9), none, []⟩,
  ⟨(some 42), .ix 1 (.t 40) (.t 41), none, [2, 3]⟩,
  ⟨(some 43), .load false 1 (.t 42), none, [4]⟩,
  ⟨(some 44), .mv (.t 12), none, []⟩,
  ⟨(some 45), .mv (.t 8), none, []⟩,
  ⟨(some 46), .call 78 [(.t 43), (.t 44), (.t 45)], none, [5, 6, 7]⟩,
  ⟨(some 37), .mv (.t 46), none, [8]⟩,
  ⟨(some 47), .ext (.t 37) 0, none, [9]⟩,
  ⟨(some 48), .ext (.t 37) 1, none, [9]⟩,
  ⟨(some 49), .ix 1 (.t 38) (.t 39), none, [0, 1, 0, 1, 2, 3, 4, 5, 6, 7, 8, 9, 10]⟩,
  ⟨none, .store 1 (.t 49) (.t 47), none, [12, 10, 8, 0, 1, 2, 3, 4, 5, 6, 7, 8, 9, 10]⟩,
  ⟨(some 8), .mv (.t 48), none, [11, 13, 0, 1, 2, 3, 4, 5, 6, 7, 8, 9, 10, 11, 12, 13]⟩])))))))
(.reg false [⟨(some 50), .bin .add (.t 17) (.d (.int .i64 1)), none, []⟩,
  ⟨(some 17), .mv (.t 50), none, [0]⟩])))))))
(.seq (.reg false [⟨(some 51), .mv (.t 1), none, []⟩,
  ⟨(some 52), .len (.t 51), none, [0]⟩,
  ⟨(some 14), .mv (.t 52), none, [1, 0, 1]⟩])
(.seq (.reg false [⟨(some 54), .mv (.t 0), none, []⟩,
  ⟨(some 55), .mv (.t 14), none, []⟩,
  ⟨(some 56), .mv (.t 0), none, []⟩,
  ⟨(some 57), .mv (.t 14), none, []⟩,
  ⟨(some 58), .ix 1 (.t 56) (.t 57), none, [2, 3]⟩,
  ⟨(some 59), .load false 1 (.t 58), none, [4]⟩,
  ⟨(some 60), .mv (.t 7), none, []⟩,
  ⟨(some 61), .mv (.t 8), none, []⟩,
  ⟨(some 62), .call 78 [(.t 59), (.t 60), (.t 61)], none, [5, 6, 7]⟩,
  ⟨(some 53), .mv (.t 62), none, [8]⟩,
  ⟨(some 63), .ext (.t 53) 0, none, [9]⟩,
  ⟨(some 64), .ext (.t 53) 1, none, [9]⟩,
  ⟨(some 65), .ix 1 (.t 54) (.t 55), none, [0, 1, 0, 1, 2, 3, 4, 5, 6, 7, 8, 9, 10]⟩,
  ⟨none, .store 1 (.t 65) (.t 63), none, [12, 10, 8, 0, 1, 2, 3, 4, 5, 6, 7, 8, 9, 10]⟩,
  ⟨(some 8), .mv (.t 64), none, [11, 13, 0, 1, 2, 3, 4, 5, 6, 7, 8, 9, 10, 11, 12, 13]⟩])
(.seq (.reg false [⟨(some 66), .mv (.t 8), none, []⟩,
  ⟨(some 67), .conv .i64 (.t 66), none, [0]⟩,
  ⟨(some 6), .mv (.t 67), none, [1, 0, 1]⟩])
.ret))))))
theorem r_nat_take : fnOf Tryd.prog n_nat_take = some (c_nat_take, [.t 6], 68, false) := by kernel_rfl

/-- tallymark/nat.digit -/
abbrev n_nat_digit : FuncId := 107
def c_nat_digit : C := (.seq (.reg false [⟨(some 4), .mv (.d (.int .u64 0)), none, []⟩])
(.seq (.reg false [⟨(some 11), .mv (.t 1), none, []⟩,
  ⟨(some 12), .len (.t 11), none, [0]⟩,
  ⟨(some 5), .mv (.t 12), none, [1, 0, 1]⟩])
(.seq (.reg false [⟨(some 6), .mv (.d (.int .u64 18446744073709551615)), none, []⟩])
(.seq (.seq (.reg true [⟨(some 13), .mv (.t 0), none, []⟩,
  ⟨(some 14), .mv (.t 5), none, []⟩,
  ⟨(some 15), .ix 1 (.t 13) (.t 14), none, [0, 1]⟩,
  ⟨(some 16), .load false 1 (.t 15), none, [2]⟩,
  ⟨(some 17), .mv (.t 1), none, []⟩,
  ⟨(some 18), .mv (.t 5), none, []⟩,
  ⟨(some 19), .bin .sub (.t 18) (.d (.int .i64 1)), none, [5]⟩,
  ⟨(some 20), .ix 1 (.t 17) (.t 19), none, [4, 6]⟩,
  ⟨(some 21), .load false 1 (.t 20), none, [7]⟩,
  ⟨(some 22), .bin .lss (.t 16) (.t 21), none, [3, 8]⟩])
(.cond (.t 22)
 (.reg true [⟨(some 24), .mv (.t 0), none, []⟩,
   ⟨(some 25), .mv (.t 5), none, []⟩,
   ⟨(some 26), .ix 1 (.t 24) (.t 25), none, [0, 1]⟩,
   ⟨(some 27), .load false 1 (.t 26), none, [2]⟩,
   ⟨(some 28), .mv (.t 0), none, []⟩,
   ⟨(some 29), .mv (.t 5), none, []⟩,
   ⟨(some 30), .bin .sub (.t 29) (.d (.int .i64 1)), none, [5]⟩,
   ⟨(some 31), .ix 1 (.t 28) (.t 30), none, [4, 6]⟩,
   ⟨(some 32), .load false 1 (.t 31), none, [7]⟩,
   ⟨(some 33), .mv (.t 1), none, []⟩,
   ⟨(some 34), .mv (.t 5), none, []⟩,
   ⟨(some 35), .bin .sub (.t 34) (.d (.int .i64 1)), none, [10]⟩,
   ⟨(some 36), .ix 1 (.t 33) (.t 35), none, [9, 11]⟩,
   ⟨(some 37), .load false 1 (.t 36), none, [12]⟩,
   ⟨(some 38), .call 69 [(.t 27), (.t 32), (.t 37)], none, [3, 8, 13]⟩,
   ⟨(some 23), .mv (.t 38), none, [14]⟩,
   ⟨(some 39), .ext (.t 23) 0, none, [15]⟩,
   ⟨(some 40), .ext (.t 23) 1, none, [15]⟩,
   ⟨(some 6), .mv (.t 39), none, [16, 14, 0, 1, 2, 3, 4, 5, 6, 7, 8, 9, 10, 11, 12, 13, 14, 15, 16]⟩])
 .skip))
(.seq (.seq (.reg false [⟨(some 41), .mv (.t 0), none, []⟩,
  ⟨(some 42), .mv (.t 1), none, []⟩,
  ⟨(some 43), .mv (.t 6), none, []⟩,
  ⟨(some 44), .call 110 [(.t 41), (.t 42), (.t 43)], none, [0, 1, 2]⟩,
  ⟨(some 7), .mv (.t 44), none, [3, 3, 0, 1, 2, 3]⟩])
(.block 0 (.loop (.seq (.seq (.reg false [⟨(some 45), .mv (.t 7), none, []⟩,
  ⟨(some 46), .bin .gtr (.t 45) (.d (.int .i64 0)), none, [0]⟩])
(.cond (.t 46)
 .skip
 (.exit 0)))
(.seq (.block 1 (.seq (.reg false [⟨(some 49), .mv (.t 6), none, []⟩,
  ⟨(some 50), .bin .sub (.t 49) (.d (.int .u64 1)), none, [0]⟩,
  ⟨(some 6), .mv (.t 50), none, [1, 0, 1]⟩])
(.seq (.reg false [⟨(some 8), .mv (.d (.int .u64 0)), none, []⟩])
(.seq (.seq (.reg false [⟨(some 51), .mv (.t 1), none, []⟩,
  ⟨(some 52), .len (.t 51), none, [0]⟩,
  ⟨(some 53), .mv (.d (.int .i64 0)), none, []⟩])
(.block 2 (.loop (.seq (.reg false [⟨(some 54), .bin .lss (.t 53) (.t 52), none, []⟩])
(.seq (.cond (.t 54)
 .skip
 (.exit 2))
(.seq (.block 3 (.seq (.reg false [⟨(some 55), .mv (.t 53), none, []⟩,
  ⟨(some 56), .ix 1 (.t 51) (.t 53), none, []⟩,
  ⟨(some 57), .load false 1 (.t 56), none, [1]⟩,
  ⟨(some 9), .mv (.t 55), none, [0, 0, 1, 2]⟩,
  ⟨(some 10), .mv (.t 57), none, [2, 3, 0, 1, 2, 3]⟩])
(.reg false [⟨(some 59), .mv (.t 0), none, []⟩,
  ⟨(some 60), .mv (.t 9), none, []⟩,
  ⟨(some 61), .mv (.t 0), none, []⟩,
  ⟨(some 62), .mv (.t 9), none, []⟩,
  ⟨(some 63), .ix 1 (.t 61) (.t 62), none, [2, 3]⟩,
  ⟨(some 64), .load false 1 (.t 63), none, [4]⟩,
  ⟨(some 65), .mv (.t 10), none, []⟩,
  ⟨(some 66), .mv (.t 8), none, []⟩,
  ⟨(some 67), .call 47 [(.t 64), (.t 65), (.t 66)], none, [5, 6, 7]⟩,
  ⟨(some 58), .mv (.t 67), none, [8]⟩,
  ⟨(some 68), .ext (.t 58) 0, none, [9]⟩,
  ⟨(some 69), .ext (.t 58) 1, none, [9]⟩,
  ⟨(some 70), .ix 1 (.t 59) (.t 60), none, [0, 1, 0, 1, 2, 3, 4, 5, 6, 7, 8, 9, 10]⟩,
  ⟨none, .store 1 (.t 70) (.t 68), none, [12, 10, 8, 0, 1, 2, 3, 4, 5, 6, 7, 8, 9, 10]⟩,
  ⟨(some 8), .mv (.t 69), none, [11, 13, 0, 1, 2, 3, 4, 5, 6, 7, 8, 9, 10, 11, 12, 13]⟩])))
(.reg false [⟨(some 71), .bin .add (.t 53) (.d (.int .i64 1)), none, []⟩,
  ⟨(some 53), .mv (.t 71), none, [0]⟩])))))))
(.seq (.reg false [⟨(some 72), .mv (.t 0), none, []⟩,
  ⟨(some 73), .mv (.t 5), none, []⟩,
  ⟨(some 74), .ix 1 (.t 72) (.t 73), none, [0, 1]⟩,
  ⟨(some 75), .load false 1 (.t 74), none, [2]⟩,
  ⟨(some 76), .mv (.t 8), none, []⟩,
  ⟨(some 77), .bin .add (.t 75) (.t 76), none, [3, 4]⟩,
  ⟨(some 78), .ix 1 (.t 72) (.t 73), none, [0, 1, 0, 1, 2, 3, 4, 5]⟩,
  ⟨none, .store 1 (.t 78) (.t 77), none, [6, 5, 0, 1, 2, 3, 4, 5]⟩])
(.seq (.reg false [⟨(some 79), .mv (.t 0), none, []⟩,
  ⟨(some 80), .mv (.t 5), none, []⟩,
  ⟨(some 81), .ix 1 (.t 79) (.t 80), none, [0, 1]⟩,
  ⟨(some 82), .load false 1 (.t 81), none, [2]⟩,
  ⟨(some 83), .bin .neq (.t 82) (.d (.int .u64 0)), none, [3]⟩])
(.cond (.t 83)
 (.reg false [⟨(some 84), .mv (.t 7), none, []⟩,
   ⟨(some 85), .bin .add (.t 84) (.d (.int .i64 1)), none, [0]⟩,
   ⟨(some 7), .mv (.t 85), none, [1, 0, 1]⟩])
 .skip)))))))
(.reg false [⟨(some 47), .mv (.t 7), none, []⟩,
  ⟨(some 48), .bin .sub (.t 47) (.d (.int .i64 1)), none, [0]⟩,
  ⟨(some 7), .mv (.t 48), none, [1, 0, 1]⟩]))))))
(.seq (.reg false [⟨(some 86), .mv (.t 6), none, []⟩,
  ⟨(some 4), .mv (.t 86), none, [0, 0]⟩])
.ret))))))
theorem r_nat_digit : fnOf Tryd.prog n_nat_digit = some (c_nat_digit, [.t 4], 87, false) := by kernel_rfl

/-- tallymark/nat.Shr -/
abbrev n_nat_Shr : FuncId := 98
def c_nat_Shr : C := (.seq (.reg false [⟨(some 2), .box 25 (.t 0), none, []⟩,
  ⟨(some 4), .new 25 [.nilsl], none, []⟩])
(.seq (.reg false [⟨(some 8), .mv (.t 1), none, []⟩,
  ⟨(some 9), .mm true [(.d (.int .i64 0)), (.t 8)], none, [0]⟩,
  ⟨(some 1), .mv (.t 9), none, [1, 0, 1]⟩])
(.seq (.seq (.reg false [⟨(some 10), .mv (.t 1), none, []⟩,
  ⟨(some 11), .bin .quo (.t 10) (.d (.int .i64 64)), none, [0]⟩,
  ⟨(some 12), .fa 0 (.t 2), none, []⟩,
  ⟨(some 13), .load false 1 (.t 12), none, [2]⟩,
  ⟨(some 14), .len (.t 13), none, [3]⟩,
  ⟨(some 15), .bin .geq (.t 11) (.t 14), none, [1, 4]⟩])
(.cond (.t 15)
 (.seq (.reg false [⟨(some 16), .build [.nilsl] [], none, []⟩,
   ⟨none, .store 1 (.t 4) (.t 16), none, [0, 0]⟩])
 .ret)
 .skip))
(.seq (.reg false [⟨(some 17), .fa 0 (.t 2), none, []⟩,
  ⟨(some 18), .load false 1 (.t 17), none, [0]⟩,
  ⟨(some 19), .mv (.t 1), none, []⟩,
  ⟨(some 20), .bin .quo (.t 19) (.d (.int .i64 64)), none, [2]⟩,
  ⟨(some 21), .slice 1 (.t 18) (some (.t 20)) none none, none, [1, 3]⟩,
  ⟨(some 22), .call 45 [(.t 21)], none, [4]⟩,
  ⟨(some 5), .mv (.t 22), none, [5, 5, 0, 1, 2, 3, 4, 5]⟩])
(.seq (.seq (.reg false [⟨(some 23), .mv (.t 1), none, []⟩,
  ⟨(some 24), .bin .rem (.t 23) (.d (.int .i64 64)), none, [0]⟩,
  ⟨(some 6), .mv (.d (.int .i64 0)), none, []⟩,
  ⟨(some 7), .mv (.t 24), none, [1, 2, 0, 1, 2]⟩])
(.block 0 (.loop (.seq (.seq (.reg false [⟨(some 25), .mv (.t 6), none, []⟩,
  ⟨(some 26), .mv (.t 5), none, []⟩,
  ⟨(some 27), .len (.t 26), none, [1]⟩,
  ⟨(some 28), .bin .lss (.t 25) (.t 27), none, [0, 2]⟩])
(.cond (.t 28)
 .skip
 (.exit 0)))
(.seq (.block 1 (.seq (.reg false [⟨(some 31), .mv (.t 5), none, []⟩,
  ⟨(some 32), .mv (.t 6), none, []⟩,
  ⟨(some 33), .ix 1 (.t 31) (.t 32), none, [0, 1]⟩,
  ⟨(some 34), .load false 1 (.t 33), none, [2]⟩,
  ⟨(some 35), .mv (.t 7), none, []⟩,
  ⟨(some 36), .bin .shr (.t 34) (.t 35), none, [3, 4]⟩,
  ⟨(some 37), .ix 1 (.t 31) (.t 32), none, [0, 1, 0, 1, 2, 3, 4, 5]⟩,
  ⟨none, .store 1 (.t 37) (.t 36), none, [6, 5, 0, 1, 2, 3, 4, 5]⟩])
(.seq (.reg false [⟨(some 38), .mv (.t 6), none, []⟩,
  ⟨(some 39), .bin .add (.t 38) (.d (.int .i64 1)), none, [0]⟩,
  ⟨(some 40), .mv (.t 5), none, []⟩,
  ⟨(some 41), .len (.t 40), none, [2]⟩,
  ⟨(some 42), .bin .lss (.t 39) (.t 41), none, [1, 3]⟩])
(.cond (.t 42)
 (.reg true [⟨(some 43), .mv (.t 5), none, []⟩,
   ⟨(some 44), .mv (.t 6), none, []⟩,
   ⟨(some 45), .ix 1 (.t 43) (.t 44), none, [0, 1]⟩,
   ⟨(some 46), .load false 1 (.t 45), none, [2]⟩,
   ⟨(some 47), .mv (.t 5), none, []⟩,
   ⟨(some 48), .mv (.t 6), none, []⟩,
   ⟨(some 49), .bin .add (.t 48) (.d (.int .i64 1)), none, [5]⟩,
   ⟨(some 50), .ix 1 (.t 47) (.t 49), none, [4, 6]⟩,
   ⟨(some 51), .load false 1 (.t 50), none, [7]⟩,
   ⟨(some 52), .mv (.t 7), none, []⟩,
   ⟨(some 53), .bin .sub (.d (.int .i64 64)) (.t 52), none, [9]⟩,
   ⟨(some 54), .bin .shl (.t 51) (.t 53), none, [8, 10]⟩,
   ⟨(some 55), .bin .or (.t 46) (.t 54), none, [3, 11]⟩,
   ⟨(some 56), .ix 1 (.t 43) (.t 44), none, [0, 1, 0, 1, 2, 3, 4, 5, 6, 7, 8, 9, 10, 11, 12]⟩,
   ⟨none, .store 1 (.t 56) (.t 55), none, [13, 12, 0, 1, 2, 3, 4, 5, 6, 7, 8, 9, 10, 11, 12]⟩])
 .skip))))
(.reg false [⟨(some 29), .mv (.t 6), none, []⟩,
  ⟨(some 30), .bin .add (.t 29) (.d (.int .i64 1)), none, [0]⟩,
  ⟨(some 6), .mv (.t 30), none, [1, 0, 1]⟩]))))))
(.seq (.reg false [⟨(some 57), .mv (.t 5), none, []⟩,
  ⟨(some 58), .call 42 [(.t 57)], none, [0]⟩,
  ⟨none, .store 1 (.t 4) (.t 58), none, [1, 1, 0, 1]⟩])
.ret))))))
theorem r_nat_Shr : fnOf Tryd.prog n_nat_Shr = some (c_nat_Shr, [.cell 4 true 1], 59, false) := by kernel_rfl

/-- tallymark/nat.long -/
abbrev n_nat_long : FuncId := 97
def c_nat_long : C := (.seq (.reg false [⟨(some 2), .box 25 (.t 0), none, []⟩,
  ⟨(some 3), .box 25 (.t 1), none, []⟩,
  ⟨(some 4), .new 25 [.nilsl], none, []⟩,
  ⟨(some 5), .new 25 [.nilsl], none, []⟩,
  ⟨(some 6), .mv (.d (.int .i64 0)), none, []⟩])
(.seq (.reg false [⟨(some 13), .fa 0 (.t 3), none, []⟩,
  ⟨(some 14), .load false 1 (.t 13), none, [0]⟩,
  ⟨(some 15), .len (.t 14), none, [1]⟩,
  ⟨(some 7), .mv (.t 15), none, [2, 0, 1, 2]⟩])
(.seq (.reg false [⟨(some 16), .fa 0 (.t 3), none, []⟩,
  ⟨(some 17), .load false 1 (.t 16), none, [0]⟩,
  ⟨(some 18), .mv (.t 7), none, []⟩,
  ⟨(some 19), .bin .sub (.t 18) (.d (.int .i64 1)), none, [2]⟩,
  ⟨(some 20), .ix 1 (.t 17) (.t 19), none, [1, 3]⟩,
  ⟨(some 21), .load false 1 (.t 20), none, [4]⟩,
  ⟨(some 22), .call 88 [(.t 21)], none, [5]⟩,
  ⟨(some 8), .mv (.t 22), none, [6, 6, 0, 1, 2, 3, 4, 5, 6]⟩])
(.seq (.reg false [⟨(some 23), .fa 0 (.t 3), none, []⟩,
  ⟨(some 24), .load false 1 (.t 23), none, [0]⟩,
  ⟨(some 25), .mv (.t 8), none, []⟩,
  ⟨(some 26), .call 46 [(.t 24), (.t 25)], none, [1, 2]⟩,
  ⟨(some 27), .mv (.t 7), none, []⟩,
  ⟨(some 28), .slice 1 (.t 26) none (some (.t 27)) none, none, [3, 4]⟩,
  ⟨(some 9), .mv (.t 28), none, [5, 3, 0, 1, 2, 3, 4, 5]⟩])
(.seq (.reg false [⟨(some 29), .fa 0 (.t 2), none, []⟩,
  ⟨(some 30), .load false 1 (.t 29), none, [0]⟩,
  ⟨(some 31), .mv (.t 8), none, []⟩,
  ⟨(some 32), .call 46 [(.t 30), (.t 31)], none, [1, 2]⟩,
  ⟨(some 10), .mv (.t 32), none, [3, 3, 0, 1, 2, 3]⟩])
(.seq (.reg false [⟨(some 33), .mv (.t 10), none, []⟩,
  ⟨(some 34), .len (.t 33), none, [0]⟩,
  ⟨(some 35), .mv (.t 7), none, []⟩,
  ⟨(some 36), .bin .sub (.t 34) (.t 35), none, [1, 2]⟩,
  ⟨(some 37), .mksl 34 1 8 [(.int .u64 0)] (.t 36) (.t 36), none, [3, 3]⟩,
  ⟨(some 11), .mv (.t 37), none, [4, 0, 1, 2, 3, 4]⟩])
(.seq (.seq (.reg false [⟨(some 38), .mv (.t 11), none, []⟩,
  ⟨(some 39), .len (.t 38), none, [0]⟩,
  ⟨(some 40), .bin .sub (.t 39) (.d (.int .i64 1)), none, [1]⟩,
  ⟨(some 12), .mv (.t 40), none, [2, 0, 1, 2]⟩])
(.block 0 (.loop (.seq (.seq (.reg false [⟨(some 41), .mv (.t 12), none, []⟩,
  ⟨(some 42), .bin .geq (.t 41) (.d (.int .i64 0)), none, [0]⟩])
(.cond (.t 42)
 .skip
 (.exit 0)))
(.seq (.block 1 (.reg false [⟨(some 45), .mv (.t 11), none, []⟩,
  ⟨(some 46), .mv (.t 12), none, []⟩,
  ⟨(some 47), .mv (.t 10), none, []⟩,
  ⟨(some 48), .mv (.t 12), none, []⟩,
  ⟨(some 49), .mv (.t 12), none, []⟩,
  ⟨(some 50), .mv (.t 7), none, []⟩,
  ⟨(some 51), .bin .add (.t 49) (.t 50), none, [4, 5]⟩,
  ⟨(some 52), .bin .add (.t 51) (.d (.int .i64 1)), none, [6]⟩,
  ⟨(some 53), .slice 1 (.t 47) (some (.t 48)) (some (.t 52)) none, none, [2, 3, 7]⟩,
  ⟨(some 54), .mv (.t 9), none, []⟩,
  ⟨(some 55), .call 107 [(.t 53), (.t 54)], none, [8, 9]⟩,
  ⟨(some 56), .ix 1 (.t 45) (.t 46), none, [0, 1, 0, 1, 2, 3, 4, 5, 6, 7, 8, 9, 10]⟩,
  ⟨none, .store 1 (.t 56) (.t 55), none, [11, 10, 10, 0, 1, 2, 3, 4, 5, 6, 7, 8, 9, 10]⟩]))
(.reg false [⟨(some 43), .mv (.t 12), none, []⟩,
  ⟨(some 44), .bin .sub (.t 43) (.d (.int .i64 1)), none, [0]⟩,
  ⟨(some 12), .mv (.t 44), none, [1, 0, 1]⟩]))))))
(.seq (.reg true [⟨(some 57), .mv (.t 11), none, []⟩,
  ⟨(some 58), .call 42 [(.t 57)], none, [0]⟩,
  ⟨(some 59), .mv (.t 10), none, []⟩,
  ⟨(some 60), .mv (.t 7), none, []⟩,
  ⟨(some 61), .slice 1 (.t 59) none (some (.t 60)) none, none, [2, 3]⟩,
  ⟨(some 62), .call 42 [(.t 61)], none, [4, 1]⟩,
  ⟨(some 63), .mv (.t 8), none, []⟩,
  ⟨(some 64), .call 98 [(.t 62), (.t 63)], none, [5, 6, 5]⟩,
  ⟨none, .store 1 (.t 4) (.t 58), none, [1, 7, 0, 1]⟩,
  ⟨none, .store 1 (.t 5) (.t 64), none, [7, 8, 0, 1, 2, 3, 4, 5, 6, 7, 8]⟩,
  ⟨(some 6), .mv (.d (.int .i64 0)), none, [9, 0, 1, 2, 3, 4, 5, 6, 7, 8, 9]⟩])
.ret))))))))
theorem r_nat_long : fnOf Tryd.prog n_nat_long = some (c_nat_long, [.cell 4 true 1, .cell 5 true 1, .t 6], 65, false) := by kernel_rfl

/-- tallymark/nat.DivMod -/
abbrev n_nat_DivMod : FuncId := 81
def c_nat_DivMod : C := (.seq (.reg false [⟨(some 2), .box 25 (.t 0), none, []⟩,
  ⟨(some 3), .box 25 (.t 1), none, []⟩,
  ⟨(some 4), .new 25 [.nilsl], none, []⟩,
  ⟨(some 5), .new 25 [.nilsl], none, []⟩,
  ⟨(some 6), .mv (.d (.int .i64 0)), none, []⟩])
(.seq (.block 0 (.seq (.reg false [⟨(some 10), .load true 1 (.t 3), none, []⟩,
  ⟨(some 11), .call 29 [(.t 10)], none, [0]⟩,
  ⟨(some 9), .mv (.t 11), none, [1, 1]⟩])
(.cond (.t 9)
 (.seq (.reg false [⟨(some 12), .build [.nilsl] [], none, []⟩,
   ⟨(some 13), .build [.nilsl] [], none, []⟩,
   ⟨none, .store 1 (.t 4) (.t 12), none, [0, 0]⟩,
   ⟨none, .store 1 (.t 5) (.t 13), none, [1, 2, 0, 1, 2]⟩,
   ⟨(some 6), .mv (.d (.int .i64 7)), none, [3, 0, 1, 2, 3]⟩])
 .ret)
 (.seq (.reg false [⟨(some 15), .load true 1 (.t 2), none, []⟩,
   ⟨(some 16), .load true 1 (.t 3), none, []⟩,
   ⟨(some 17), .call 11 [(.t 15), (.t 16)], none, [0, 1]⟩,
   ⟨(some 18), .bin .lss (.t 17) (.d (.int .i64 0)), none, [2]⟩,
   ⟨(some 14), .mv (.t 18), none, [3, 2]⟩])
 (.cond (.t 14)
  (.seq (.reg false [⟨(some 19), .build [.nilsl] [], none, []⟩,
    ⟨(some 20), .fa 0 (.t 2), none, []⟩,
    ⟨(some 21), .load false 1 (.t 20), none, [1]⟩,
    ⟨(some 22), .call 13 [(.t 21)], none, [2]⟩,
    ⟨none, .store 1 (.t 4) (.t 19), none, [0, 3, 0]⟩,
    ⟨none, .store 1 (.t 5) (.t 22), none, [3, 4, 0, 1, 2, 3, 4]⟩,
    ⟨(some 6), .mv (.d (.int .i64 0)), none, [5, 0, 1, 2, 3, 4, 5]⟩])
  .ret)
  (.seq (.reg false [⟨(some 24), .fa 0 (.t 3), none, []⟩,
    ⟨(some 25), .load false 1 (.t 24), none, [0]⟩,
    ⟨(some 26), .len (.t 25), none, [1]⟩,
    ⟨(some 27), .bin .eql (.t 26) (.d (.int .i64 1)), none, [2]⟩,
    ⟨(some 23), .mv (.t 27), none, [3]⟩])
  (.cond (.t 23)
   (.seq (.reg true [⟨(some 29), .fa 0 (.t 2), none, []⟩,
     ⟨(some 30), .load false 1 (.t 29), none, [0]⟩,
     ⟨(some 31), .fa 0 (.t 3), none, []⟩,
     ⟨(some 32), .load false 1 (.t 31), none, [2]⟩,
     ⟨(some 33), .ix 1 (.t 32) (.d (.int .i64 0)), none, [3]⟩,
     ⟨(some 34), .load false 1 (.t 33), none, [4]⟩,
     ⟨(some 35), .call 41 [(.t 30), (.t 34)], none, [1, 5]⟩,
     ⟨(some 28), .mv (.t 35), none, [6]⟩,
     ⟨(some 36), .ext (.t 28) 0, none, [7]⟩,
     ⟨(some 37), .ext (.t 28) 1, none, [7]⟩,
     ⟨(some 7), .mv (.t 36), none, [8, 6, 0, 1, 2, 3, 4, 5, 6, 7, 8]⟩,
     ⟨(some 8), .mv (.t 37), none, [9, 10, 0, 1, 2, 3, 4, 5, 6, 7, 8, 9, 10]⟩])
   (.seq (.reg false [⟨(some 38), .mv (.t 7), none, []⟩,
     ⟨(some 39), .call 42 [(.t 38)], none, [0]⟩,
     ⟨(some 40), .mv (.t 8), none, []⟩,
     ⟨(some 41), .bsl 34 1 1 [(.int .u64 0)] [(0, 1, (.t 40))], none, [2]⟩,
     ⟨(some 42), .call 13 [(.t 41)], none, [3, 1]⟩,
     ⟨none, .store 1 (.t 4) (.t 39), none, [1, 4, 0, 1]⟩,
     ⟨none, .store 1 (.t 5) (.t 42), none, [4, 5, 0, 1, 2, 3, 4, 5]⟩,
     ⟨(some 6), .mv (.d (.int .i64 0)), none, [6, 0, 1, 2, 3, 4, 5, 6]⟩])
   .ret))
   .skip)))))))
(.seq (.reg false [⟨(some 43), .load true 1 (.t 2), none, []⟩,
  ⟨(some 44), .load true 1 (.t 3), none, []⟩,
  ⟨(some 45), .call 97 [(.t 43), (.t 44)], none, [0, 1]⟩,
  ⟨(some 46), .ext (.t 45) 0, none, [2]⟩,
  ⟨(some 47), .ext (.t 45) 1, none, [2]⟩,
  ⟨(some 48), .ext (.t 45) 2, none, [2]⟩,
  ⟨none, .store 1 (.t 4) (.t 46), none, [3, 2, 0, 1, 2, 3, 4, 5]⟩,
  ⟨none, .store 1 (.t 5) (.t 47), none, [4, 6, 0, 1, 2, 3, 4, 5, 6]⟩,
  ⟨(some 6), .mv (.t 48), none, [5, 7, 0, 1, 2, 3, 4, 5, 6, 7]⟩])
.ret)))
theorem r_nat_DivMod : fnOf Tryd.prog n_nat_DivMod = some (c_nat_DivMod, [.cell 4 true 1, .cell 5 true 1, .t 6], 49, false) := by kernel_rfl

/-- tallymark/nat.Gcd -/
abbrev n_nat_Gcd : FuncId := 79
def c_nat_Gcd : C := (.seq (.reg false [⟨(some 2), .box 25 (.t 0), none, []⟩,
  ⟨(some 3), .box 25 (.t 1), none, []⟩,
  ⟨(some 4), .new 25 [.nilsl], none, []⟩])
(.seq (.block 0 (.loop (.seq (.seq (.reg false [⟨(some 8), .load true 1 (.t 3), none, []⟩,
  ⟨(some 9), .call 29 [(.t 8)], none, [0]⟩,
  ⟨(some 10), .un .not (.t 9), none, [1]⟩])
(.cond (.t 10)
 .skip
 (.exit 0)))
(.block 1 (.seq (.reg false [⟨(some 12), .load true 1 (.t 2), none, []⟩,
  ⟨(some 13), .load true 1 (.t 3), none, []⟩,
  ⟨(some 14), .call 81 [(.t 12), (.t 13)], none, [0, 1]⟩,
  ⟨(some 11), .mv (.t 14), none, [2]⟩,
  ⟨(some 15), .ext (.t 11) 0, none, [3]⟩,
  ⟨(some 16), .ext (.t 11) 1, none, [3]⟩,
  ⟨(some 17), .ext (.t 11) 2, none, [3]⟩,
  ⟨(some 5), .new 25 [.nilsl], none, []⟩,
  ⟨(some 6), .new 25 [.nilsl], none, []⟩,
  ⟨none, .store 1 (.t 5) (.t 15), none, [7, 4, 2, 0, 1, 2, 3, 4, 7, 8]⟩,
  ⟨none, .store 1 (.t 6) (.t 16), none, [8, 5, 9, 0, 1, 2, 3, 4, 5, 7, 8, 9]⟩,
  ⟨(some 7), .mv (.t 17), none, [6, 10, 0, 1, 2, 3, 4, 5, 6, 7, 8, 9, 10]⟩])
(.reg true [⟨(some 18), .load true 1 (.t 3), none, []⟩,
  ⟨(some 19), .load true 1 (.t 6), none, []⟩,
  ⟨none, .store 1 (.t 2) (.t 18), none, [0, 0]⟩,
  ⟨none, .store 1 (.t 3) (.t 19), none, [1, 2, 0, 1, 2]⟩]))))))
(.seq (.reg false [⟨(some 20), .fa 0 (.t 2), none, []⟩,
  ⟨(some 21), .load false 1 (.t 20), none, [0]⟩,
  ⟨(some 22), .call 13 [(.t 21)], none, [1]⟩,
  ⟨none, .store 1 (.t 4) (.t 22), none, [2, 2, 0, 1, 2]⟩])
.ret)))
theorem r_nat_Gcd : fnOf Tryd.prog n_nat_Gcd = some (c_nat_Gcd, [.cell 4 true 1], 23, false) := by kernel_rfl

/-- (tallymark/whole.Whole).Neg -/
abbrev n_whole_Whole_Neg : FuncId := 83
def c_whole_Whole_Neg : C := (.seq (.reg false [⟨(some 1), .box 54 (.t 0), none, []⟩,
  ⟨(some 2), .mv (.d (.bool false)), none, []⟩])
(.seq (.reg false [⟨(some 3), .fa 1 (.t 1), none, []⟩,
  ⟨(some 4), .load false 1 (.t 3), none, [0]⟩,
  ⟨(some 2), .mv (.t 4), none, [1, 0, 1]⟩])
.ret))
theorem r_whole_Whole_Neg : fnOf Tryd.prog n_whole_Whole_Neg = some (c_whole_Whole_Neg, [.t 2], 5, false) := by kernel_rfl

/-- tallymark/rat.made -/
abbrev n_rat_made : FuncId := 56
def c_rat_made : C := (.seq (.reg false [⟨(some 2), .box 54 (.t 0), none, []⟩,
  ⟨(some 3), .box 25 (.t 1), none, []⟩,
  ⟨(some 4), .new 56 [.nilsl, (.bool false), .nilsl], none, []⟩])
(.seq (.reg true [⟨(some 14), .load true 2 (.t 2), none, []⟩,
  ⟨(some 15), .call 80 [(.t 14)], none, [0]⟩,
  ⟨(some 16), .load true 1 (.t 3), none, []⟩,
  ⟨(some 17), .call 79 [(.t 15), (.t 16)], none, [1, 2, 1]⟩,
  ⟨(some 5), .new 25 [.nilsl], none, []⟩,
  ⟨none, .store 1 (.t 5) (.t 17), none, [4, 3, 3, 0, 1, 2, 3, 4]⟩])
(.seq (.reg true [⟨(some 19), .load true 2 (.t 2), none, []⟩,
  ⟨(some 20), .call 80 [(.t 19)], none, [0]⟩,
  ⟨(some 21), .load true 1 (.t 5), none, []⟩,
  ⟨(some 22), .call 81 [(.t 20), (.t 21)], none, [1, 2, 1]⟩,
  ⟨(some 18), .mv (.t 22), none, [3]⟩,
  ⟨(some 23), .ext (.t 18) 0, none, [4]⟩,
  ⟨(some 24), .ext (.t 18) 1, none, [4]⟩,
  ⟨(some 25), .ext (.t 18) 2, none, [4]⟩,
  ⟨(some 6), .new 25 [.nilsl], none, []⟩,
  ⟨(some 7), .new 25 [.nilsl], none, []⟩,
  ⟨none, .store 1 (.t 6) (.t 23), none, [8, 5, 3, 0, 1, 2, 3, 4, 5, 8, 9]⟩,
  ⟨none, .store 1 (.t 7) (.t 24), none, [9, 6, 10, 0, 1, 2, 3, 4, 5, 6, 8, 9, 10]⟩,
  ⟨(some 8), .mv (.t 25), none, [7, 11, 0, 1, 2, 3, 4, 5, 6, 7, 8, 9, 10, 11]⟩])
(.seq (.reg false [⟨(some 27), .load true 1 (.t 3), none, []⟩,
  ⟨(some 28), .load true 1 (.t 5), none, []⟩,
  ⟨(some 29), .call 81 [(.t 27), (.t 28)], none, [0, 1]⟩,
  ⟨(some 26), .mv (.t 29), none, [2]⟩,
  ⟨(some 30), .ext (.t 26) 0, none, [3]⟩,
  ⟨(some 31), .ext (.t 26) 1, none, [3]⟩,
  ⟨(some 32), .ext (.t 26) 2, none, [3]⟩,
  ⟨(some 9), .new 25 [.nilsl], none, []⟩,
  ⟨(some 10), .new 25 [.nilsl], none, []⟩,
  ⟨none, .store 1 (.t 9) (.t 30), none, [7, 4, 2, 0, 1, 2, 3, 4, 7, 8]⟩,
  ⟨none, .store 1 (.t 10) (.t 31), none, [8, 5, 9, 0, 1, 2, 3, 4, 5, 7, 8, 9]⟩,
  ⟨(some 11), .mv (.t 32), none, [6, 10, 0, 1, 2, 3, 4, 5, 6, 7, 8, 9, 10]⟩])
(.seq (.reg true [⟨(some 34), .load true 1 (.t 9), none, []⟩,
  ⟨(some 35), .bsl 34 1 1 [(.int .u64 0)] [(0, 1, (.d (.int .u64 1)))], none, []⟩,
  ⟨(some 36), .call 13 [(.t 35)], none, [1]⟩,
  ⟨(some 37), .call 52 [(.t 34), (.t 36)], none, [0, 2, 2]⟩,
  ⟨(some 33), .mv (.t 37), none, [3]⟩,
  ⟨(some 38), .ext (.t 33) 0, none, [4]⟩,
  ⟨(some 39), .ext (.t 33) 1, none, [4]⟩,
  ⟨(some 12), .new 25 [.nilsl], none, []⟩,
  ⟨none, .store 1 (.t 12) (.t 38), none, [7, 5, 3, 0, 1, 2, 3, 4, 5, 7]⟩,
  ⟨(some 13), .mv (.t 39), none, [6, 8, 0, 1, 2, 3, 4, 5, 6, 7, 8]⟩])
(.seq (.reg true [⟨(some 40), .load true 2 (.t 2), none, []⟩,
  ⟨(some 41), .call 83 [(.t 40)], none, [0]⟩,
  ⟨(some 42), .load true 1 (.t 6), none, []⟩,
  ⟨(some 43), .call 82 [(.t 41), (.t 42)], none, [1, 2, 1]⟩,
  ⟨(some 44), .load true 1 (.t 12), none, []⟩,
  ⟨(some 45), .build [.nilsl, (.bool false), .nilsl] [(0, 2, (.t 43)), (2, 1, (.t 44))], none, [3, 4]⟩,
  ⟨none, .store 3 (.t 4) (.t 45), none, [5, 3, 0, 1, 2, 3, 4, 5]⟩])
.ret))))))
theorem r_rat_made : fnOf Tryd.prog n_rat_made = some (c_rat_made, [.cell 4 true 3], 46, false) := by kernel_rfl

/-- tallymark/rat.Half -/
abbrev n_rat_Half : FuncId := 30
def c_rat_Half : C := (.seq (.reg false [⟨(some 2), .new 56 [.nilsl, (.bool false), .nilsl], none, []⟩,
  ⟨(some 3), .mv (.d (.int .i64 0)), none, []⟩])
(.seq (.reg false [⟨(some 7), .bsl 34 1 1 [(.int .u64 0)] [(0, 1, (.d (.int .u64 1)))], none, []⟩,
  ⟨(some 8), .call 13 [(.t 7)], none, [0]⟩,
  ⟨(some 9), .mv (.t 0), none, []⟩,
  ⟨(some 10), .call 14 [(.t 8), (.t 9)], none, [1, 2, 1]⟩,
  ⟨(some 6), .mv (.t 10), none, [3]⟩,
  ⟨(some 11), .ext (.t 6) 0, none, [4]⟩,
  ⟨(some 12), .ext (.t 6) 1, none, [4]⟩,
  ⟨(some 4), .new 25 [.nilsl], none, []⟩,
  ⟨none, .store 1 (.t 4) (.t 11), none, [7, 5, 3, 0, 1, 2, 3, 4, 5, 7]⟩,
  ⟨(some 5), .mv (.t 12), none, [6, 8, 0, 1, 2, 3, 4, 5, 6, 7, 8]⟩])
(.seq (.seq (.reg false [⟨(some 13), .mv (.t 5), none, []⟩,
  ⟨(some 14), .bin .neq (.t 13) (.d (.int .i64 0)), none, [0]⟩])
(.cond (.t 14)
 (.seq (.reg false [⟨(some 15), .build [.nilsl, (.bool false), .nilsl] [], none, []⟩,
   ⟨(some 16), .mv (.t 5), none, []⟩,
   ⟨none, .store 3 (.t 2) (.t 15), none, [0, 0]⟩,
   ⟨(some 3), .mv (.t 16), none, [1, 2, 0, 1, 2]⟩])
 .ret)
 .skip))
(.seq (.reg true [⟨(some 17), .call 57 [(.d (.int .i64 1))], none, []⟩,
  ⟨(some 18), .load true 1 (.t 4), none, []⟩,
  ⟨(some 19), .call 56 [(.t 17), (.t 18)], none, [0, 1, 0]⟩,
  ⟨none, .store 3 (.t 2) (.t 19), none, [2, 2, 0, 1, 2]⟩,
  ⟨(some 3), .mv (.d (.int .i64 0)), none, [3, 0, 1, 2, 3]⟩])
.ret))))
theorem r_rat_Half : fnOf Tryd.prog n_rat_Half = some (c_rat_Half, [.cell 2 true 3, .t 3], 20, false) := by kernel_rfl

/-- tallymark/float.Chance -/
abbrev n_float_Chance : FuncId := 24
def c_float_Chance : C := (.seq (.reg false [⟨(some 4), .new 56 [.nilsl, (.bool false), .nilsl], none, []⟩,
  ⟨(some 5), .mv (.d (.int .i64 0)), none, []⟩])
(.seq (.seq (.reg false [⟨(some 9), .mv (.t 0), none, []⟩,
  ⟨(some 10), .mv (.t 1), none, []⟩,
  ⟨(some 11), .bsl 3 1 1 [(.int .i64 0)] [(0, 1, (.t 10))], none, [1]⟩,
  ⟨(some 12), .call 50 [(.t 9), (.t 11)], none, [0, 2]⟩,
  ⟨(some 6), .mv (.t 12), none, [3, 3, 0, 1, 2, 3]⟩])
(.seq (.reg false [⟨(some 13), .mv (.t 6), none, []⟩,
  ⟨(some 14), .bin .neq (.t 13) (.d (.int .i64 0)), none, [0]⟩])
(.cond (.t 14)
 (.seq (.reg false [⟨(some 15), .build [.nilsl, (.bool false), .nilsl] [], none, []⟩,
   ⟨(some 16), .mv (.t 6), none, []⟩,
   ⟨none, .store 3 (.t 4) (.t 15), none, [0, 0]⟩,
   ⟨(some 5), .mv (.t 16), none, [1, 2, 0, 1, 2]⟩])
 .ret)
 .skip)))
(.seq (.reg false [⟨(some 18), .mv (.t 0), none, []⟩,
  ⟨(some 19), .mv (.t 1), none, []⟩,
  ⟨(some 20), .call 51 [(.t 18), (.t 19)], none, [0, 1]⟩,
  ⟨(some 17), .mv (.t 20), none, [2]⟩,
  ⟨(some 21), .ext (.t 17) 0, none, [3]⟩,
  ⟨(some 22), .ext (.t 17) 1, none, [3]⟩,
  ⟨(some 7), .mv (.t 21), none, [4, 2, 0, 1, 2, 3, 4]⟩,
  ⟨(some 8), .mv (.t 22), none, [5, 6, 0, 1, 2, 3, 4, 5, 6]⟩])
(.seq (.reg false [⟨(some 23), .mv (.t 7), none, []⟩,
  ⟨(some 24), .call 30 [(.t 23)], none, [0]⟩,
  ⟨(some 25), .ext (.t 24) 0, none, [1]⟩,
  ⟨(some 26), .ext (.t 24) 1, none, [1]⟩,
  ⟨none, .store 3 (.t 4) (.t 25), none, [2, 1, 0, 1, 2, 3]⟩,
  ⟨(some 5), .mv (.t 26), none, [3, 4, 0, 1, 2, 3, 4]⟩])
.ret))))
theorem r_float_Chance : fnOf Tryd.prog n_float_Chance = some (c_float_Chance, [.cell 4 true 3, .t 5], 27, false) := by kernel_rfl

/-- internal/strconv.small -/
abbrev n_internal_strconv_small : FuncId := 89
def c_internal_strconv_small : C := (.seq (.reg false [⟨(some 2), .mv (.d (.str ⟨#[]⟩)), none, []⟩])
(.seq (.seq (.reg false [⟨(some 3), .mv (.t 0), none, []⟩,
  ⟨(some 4), .bin .lss (.t 3) (.d (.int .i64 10)), none, [0]⟩])
(.cond (.t 4)
 (.seq (.reg false [⟨(some 5), .mv (.t 0), none, []⟩,
   ⟨(some 6), .mv (.t 0), none, []⟩,
   ⟨(some 7), .bin .add (.t 6) (.d (.int .i64 1)), none, [1]⟩,
   ⟨(some 8), .sstr (.d (.str ⟨#[48, 49, 50, 51, 52, 53, 54, 55, 56, 57, 97, 98, 99, 100, 101, 102, 103, 104, 105, 106, 107, 108, 109, 110, 111, 112, 113, 114, 115, 116, 117, 118, 119, 120, 121, 122]⟩)) (some (.t 5)) (some (.t 7)), none, [0, 2]⟩,
   ⟨(some 2), .mv (.t 8), none, [3, 0, 1, 2, 3]⟩])
 .ret)
 .skip))
(.seq (.reg false [⟨(some 9), .mv (.t 0), none, []⟩,
  ⟨(some 10), .bin .mul (.t 9) (.d (.int .i64 2)), none, [0]⟩,
  ⟨(some 11), .mv (.t 0), none, []⟩,
  ⟨(some 12), .bin .mul (.t 11) (.d (.int .i64 2)), none, [2]⟩,
  ⟨(some 13), .bin .add (.t 12) (.d (.int .i64 2)), none, [3]⟩,
  ⟨(some 14), .sstr (.d (.str ⟨#[48, 48, 48, 49, 48, 50, 48, 51, 48, 52, 48, 53, 48, 54, 48, 55, 48, 56, 48, 57, 49, 48, 49, 49, 49, 50, 49, 51, 49, 52, 49, 53, 49, 54, 49, 55, 49, 56, 49, 57, 50, 48, 50, 49, 50, 50, 50, 51, 50, 52, 50, 53, 50, 54, 50, 55, 50, 56, 50, 57, 51, 48, 51, 49, 51, 50, 51, 51, 51, 52, 51, 53, 51, 54, 51, 55, 51, 56, 51, 57, 52, 48, 52, 49, 52, 50, 52, 51, 52, 52, 52, 53, 52, 54, 52, 55, 52, 56, 52, 57, 53, 48, 53, 49, 53, 50, 53, 51, 53, 52, 53, 53, 53, 54, 53, 55, 53, 56, 53, 57, 54, 48, 54, 49, 54, 50, 54, 51, 54, 52, 54, 53, 54, 54, 54, 55, 54, 56, 54, 57, 55, 48, 55, 49, 55, 50, 55, 51, 55, 52, 55, 53, 55, 54, 55, 55, 55, 56, 55, 57, 56, 48, 56, 49, 56, 50, 56, 51, 56, 52, 56, 53, 56, 54, 56, 55, 56, 56, 56, 57, 57, 48, 57, 49, 57, 50, 57, 51, 57, 52, 57, 53, 57, 54, 57, 55, 57, 56, 57, 57]⟩)) (some (.t 10)) (some (.t 13)), none, [1, 4]⟩,
  ⟨(some 2), .mv (.t 14), none, [5, 0, 1, 2, 3, 4, 5]⟩])
.ret)))
theorem r_internal_strconv_small : fnOf Tryd.prog n_internal_strconv_small = some (c_internal_strconv_small, [.t 2], 15, false) := by kernel_rfl

/-- internal/strconv.log10Pow2 -/
abbrev n_internal_strconv_log10Pow2 : FuncId := 101
def c_internal_strconv_log10Pow2 : C := (.seq (.reg false [⟨(some 2), .mv (.d (.int .i64 0)), none, []⟩])
(.seq (.reg false [⟨(some 3), .mv (.t 0), none, []⟩,
  ⟨(some 4), .bin .mul (.t 3) (.d (.int .i64 78913)), none, [0]⟩,
  ⟨(some 5), .bin .shr (.t 4) (.d (.int .u64 18)), none, [1]⟩,
  ⟨(some 2), .mv (.t 5), none, [2, 0, 1, 2]⟩])
.ret))
theorem r_internal_strconv_log10Pow2 : fnOf Tryd.prog n_internal_strconv_log10Pow2 = some (c_internal_strconv_log10Pow2, [.t 2], 6, false) := by kernel_rfl

/-- internal/strconv.bool2[int] -/
abbrev n_internal_strconv_bool2_int : FuncId := 102
def c_internal_strconv_bool2_int : C := (.seq (.reg false [⟨(some 2), .mv (.d (.int .i64 0)), none, []⟩])
(.seq (.seq (.reg false [⟨(some 3), .mv (.t 0), none, []⟩])
(.cond (.t 3)
 (.seq (.reg false [⟨(some 2), .mv (.d (.int .i64 1)), none, []⟩])
 .ret)
 .skip))
(.seq (.reg false [⟨(some 2), .mv (.d (.int .i64 0)), none, []⟩])
.ret)))
theorem r_internal_strconv_bool2_int : fnOf Tryd.prog n_internal_strconv_bool2_int = some (c_internal_strconv_bool2_int, [.t 2], 4, false) := by kernel_rfl

/-- internal/strconv.formatBase10 -/
abbrev n_internal_strconv_formatBase10 : FuncId := 91
def c_internal_strconv_formatBase10 : C := (.seq (.reg false [⟨(some 17), .mv (.t 0), none, []⟩,
  ⟨(some 18), .len (.t 17), none, [0]⟩,
  ⟨(some 4), .mv (.t 18), none, [1, 0, 1]⟩])
(.seq (.block 0 (.loop (.seq (.seq (.reg false [⟨(some 19), .mv (.t 4), none, []⟩,
  ⟨(some 20), .bin .geq (.t 19) (.d (.int .i64 8)), none, [0]⟩])
(.cond (.t 20)
 .skip
 (.exit 0)))
(.block 1 (.seq (.reg false [⟨(some 21), .mv (.t 1), none, []⟩,
  ⟨(some 22), .bin .rem (.t 21) (.d (.int .u64 100000000)), none, [0]⟩,
  ⟨(some 23), .conv .u32 (.t 22), none, [1]⟩,
  ⟨(some 5), .mv (.t 23), none, [2, 0, 1, 2]⟩])
(.seq (.reg false [⟨(some 24), .mv (.t 1), none, []⟩,
  ⟨(some 25), .bin .quo (.t 24) (.d (.int .u64 100000000)), none, [0]⟩,
  ⟨(some 1), .mv (.t 25), none, [1, 0, 1]⟩])
(.seq (.reg false [⟨(some 26), .mv (.t 5), none, []⟩,
  ⟨(some 27), .bin .quo (.t 26) (.d (.int .u32 10000)), none, [0]⟩,
  ⟨(some 28), .mv (.t 5), none, []⟩,
  ⟨(some 29), .bin .rem (.t 28) (.d (.int .u32 10000)), none, [2]⟩,
  ⟨(some 6), .mv (.t 27), none, [1, 0, 1]⟩,
  ⟨(some 7), .mv (.t 29), none, [3, 4, 0, 1, 2, 3, 4]⟩])
(.seq (.reg false [⟨(some 30), .mv (.t 7), none, []⟩,
  ⟨(some 31), .bin .quo (.t 30) (.d (.int .u32 100)), none, [0]⟩,
  ⟨(some 32), .bin .mul (.t 31) (.d (.int .u32 2)), none, [1]⟩,
  ⟨(some 33), .mv (.t 7), none, []⟩,
  ⟨(some 34), .bin .rem (.t 33) (.d (.int .u32 100)), none, [3]⟩,
  ⟨(some 35), .bin .mul (.t 34) (.d (.int .u32 2)), none, [4]⟩,
  ⟨(some 8), .mv (.t 32), none, [2, 0, 1, 2]⟩,
  ⟨(some 9), .mv (.t 35), none, [5, 6, 0, 1, 2, 3, 4, 5, 6]⟩])
(.seq (.reg false [⟨(some 36), .mv (.t 6), none, []⟩,
  ⟨(some 37), .bin .quo (.t 36) (.d (.int .u32 100)), none, [0]⟩,
  ⟨(some 38), .bin .mul (.t 37) (.d (.int .u32 2)), none, [1]⟩,
  ⟨(some 39), .mv (.t 6), none, []⟩,
  ⟨(some 40), .bin .rem (.t 39) (.d (.int .u32 100)), none, [3]⟩,
  ⟨(some 41), .bin .mul (.t 40) (.d (.int .u32 2)), none, [4]⟩,
  ⟨(some 10), .mv (.t 38), none, [2, 0, 1, 2]⟩,
  ⟨(some 11), .mv (.t 41), none, [5, 6, 0, 1, 2, 3, 4, 5, 6]⟩])
(.seq (.reg true [⟨(some 42), .mv (.t 0), none, []⟩,
  ⟨(some 43), .mv (.t 4), none, []⟩,
  ⟨(some 44), .bin .sub (.t 43) (.d (.int .i64 1)), none, [1]⟩,
  ⟨(some 45), .mv (.t 0), none, []⟩,
  ⟨(some 46), .mv (.t 4), none, []⟩,
  ⟨(some 47), .bin .sub (.t 46) (.d (.int .i64 2)), none, [4]⟩,
  ⟨(some 48), .mv (.t 9), none, []⟩,
  ⟨(some 49), .bin .add (.t 48) (.d (.int .u32 1)), none, [6]⟩,
  ⟨(some 50), .gstr (.d (.str ⟨#[48, 48, 48, 49, 48, 50, 48, 51, 48, 52, 48, 53, 48, 54, 48, 55, 48, 56, 48, 57, 49, 48, 49, 49, 49, 50, 49, 51, 49, 52, 49, 53, 49, 54, 49, 55, 49, 56, 49, 57, 50, 48, 50, 49, 50, 50, 50, 51, 50, 52, 50, 53, 50, 54, 50, 55, 50, 56, 50, 57, 51, 48, 51, 49, 51, 50, 51, 51, 51, 52, 51, 53, 51, 54, 51, 55, 51, 56, 51, 57, 52, 48, 52, 49, 52, 50, 52, 51, 52, 52, 52, 53, 52, 54, 52, 55, 52, 56, 52, 57, 53, 48, 53, 49, 53, 50, 53, 51, 53, 52, 53, 53, 53, 54, 53, 55, 53, 56, 53, 57, 54, 48, 54, 49, 54, 50, 54, 51, 54, 52, 54, 53, 54, 54, 54, 55, 54, 56, 54, 57, 55, 48, 55, 49, 55, 50, 55, 51, 55, 52, 55, 53, 55, 54, 55, 55, 55, 56, 55, 57, 56, 48, 56, 49, 56, 50, 56, 51, 56, 52, 56, 53, 56, 54, 56, 55, 56, 56, 56, 57, 57, 48, 57, 49, 57, 50, 57, 51, 57, 52, 57, 53, 57, 54, 57, 55, 57, 56, 57, 57]⟩)) (.t 49), none, [7]⟩,
  ⟨(some 51), .mv (.t 9), none, []⟩,
  ⟨(some 52), .gstr (.d (.str ⟨#[48, 48, 48, 49, 48, 50, 48, 51, 48, 52, 48, 53, 48, 54, 48, 55, 48, 56, 48, 57, 49, 48, 49, 49, 49, 50, 49, 51, 49, 52, 49, 53, 49, 54, 49, 55, 49, 56, 49, 57, 50, 48, 50, 49, 50, 50, 50, 51, 50, 52, 50, 53, 50, 54, 50, 55, 50, 56, 50, 57, 51, 48, 51, 49, 51, 50, 51, 51, 51, 52, 51, 53, 51, 54, 51, 55, 51, 56, 51, 57, 52, 48, 52, 49, 52, 50, 52, 51, 52, 52, 52, 53, 52, 54, 52, 55, 52, 56, 52, 57, 53, 48, 53, 49, 53, 50, 53, 51, 53, 52, 53, 53, 53, 54, 53, 55, 53, 56, 53, 57, 54, 48, 54, 49, 54, 50, 54, 51, 54, 52, 54, 53, 54, 54, 54, 55, 54, 56, 54, 57, 55, 48, 55, 49, 55, 50, 55, 51, 55, 52, 55, 53, 55, 54, 55, 55, 55, 56, 55, 57, 56, 48, 56, 49, 56, 50, 56, 51, 56, 52, 56, 53, 56, 54, 56, 55, 56, 56, 56, 57, 57, 48, 57, 49, 57, 50, 57, 51, 57, 52, 57, 53, 57, 54, 57, 55, 57, 56, 57, 57]⟩)) (.t 51), none, [9]⟩,
  ⟨(some 53), .ix 1 (.t 42) (.t 44), none, [0, 2, 0, 1, 2, 6, 7, 8]⟩,
  ⟨none, .store 1 (.t 53) (.t 50), none, [11, 8, 0, 1, 2, 6, 7, 8]⟩,
  ⟨(some 54), .ix 1 (.t 45) (.t 47), none, [3, 5, 0, 1, 2, 3, 4, 5, 6, 7, 8, 9, 10, 11, 12]⟩,
  ⟨none, .store 1 (.t 54) (.t 52), none, [13, 10, 12, 0, 1, 2, 3, 4, 5, 6, 7, 8, 9, 10, 11, 12]⟩])
(.seq (.reg true [⟨(some 55), .mv (.t 0), none, []⟩,
  ⟨(some 56), .mv (.t 4), none, []⟩,
  ⟨(some 57), .bin .sub (.t 56) (.d (.int .i64 3)), none, [1]⟩,
  ⟨(some 58), .mv (.t 0), none, []⟩,
  ⟨(some 59), .mv (.t 4), none, []⟩,
  ⟨(some 60), .bin .sub (.t 59) (.d (.int .i64 4)), none, [4]⟩,
  ⟨(some 61), .mv (.t 8), none, []⟩,
  ⟨(some 62), .bin .add (.t 61) (.d (.int .u32 1)), none, [6]⟩,
  ⟨(some 63), .gstr (.d (.str ⟨#[48, 48, 48, 49, 48, 50, 48, 51, 48, 52, 48, 53, 48, 54, 48, 55, 48, 56, 48, 57, 49, 48, 49, 49, 49, 50, 49, 51, 49, 52, 49, 53, 49, 54, 49, 55, 49, 56, 49, 57, 50, 48, 50, 49, 50, 50, 50, 51, 50, 52, 50, 53, 50, 54, 50, 55, 50, 56, 50, 57, 51, 48, 51, 49, 51, 50, 51, 51, 51, 52, 51, 53, 51, 54, 51, 55, 51, 56, 51, 57, 52, 48, 52, 49, 52, 50, 52, 51, 52, 52, 52, 53, 52, 54, 52, 55, 52, 56, 52, 57, 53, 48, 53, 49, 53, 50, 53, 51, 53, 52, 53, 53, 53, 54, 53, 55, 53, 56, 53, 57, 54, 48, 54, 49, 54, 50, 54, 51, 54, 52, 54, 53, 54, 54, 54, 55, 54, 56, 54, 57, 55, 48, 55, 49, 55, 50, 55, 51, 55, 52, 55, 53, 55, 54, 55, 55, 55, 56, 55, 57, 56, 48, 56, 49, 56, 50, 56, 51, 56, 52, 56, 53, 56, 54, 56, 55, 56, 56, 56, 57, 57, 48, 57, 49, 57, 50, 57, 51, 57, 52, 57, 53, 57, 54, 57, 55, 57, 56, 57, 57]⟩)) (.t 62), none, [7]⟩,
  ⟨(some 64), .mv (.t 8), none, []⟩,
  ⟨(some 65), .gstr (.d (.str ⟨#[48, 48, 48, 49, 48, 50, 48, 51, 48, 52, 48, 53, 48, 54, 48, 55, 48, 56, 48, 57, 49, 48, 49, 49, 49, 50, 49, 51, 49, 52, 49, 53, 49, 54, 49, 55, 49, 56, 49, 57, 50, 48, 50, 49, 50, 50, 50, 51, 50, 52, 50, 53, 50, 54, 50, 55, 50, 56, 50, 57, 51, 48, 51, 49, 51, 50, 51, 51, 51, 52, 51, 53, 51, 54, 51, 55, 51, 56, 51, 57, 52, 48, 52, 49, 52, 50, 52, 51, 52, 52, 52, 53, 52, 54, 52, 55, 52, 56, 52, 57, 53, 48, 53, 49, 53, 50, 53, 51, 53, 52, 53, 53, 53, 54, 53, 55, 53, 56, 53, 57, 54, 48, 54, 49, 54, 50, 54, 51, 54, 52, 54, 53, 54, 54, 54, 55, 54, 56, 54, 57, 55, 48, 55, 49, 55, 50, 55, 51, 55, 52, 55, 53, 55, 54, 55, 55, 55, 56, 55, 57, 56, 48, 56, 49, 56, 50, 56, 51, 56, 52, 56, 53, 56, 54, 56, 55, 56, 56, 56, 57, 57, 48, 57, 49, 57, 50, 57, 51, 57, 52, 57, 53, 57, 54, 57, 55, 57, 56, 57, 57]⟩)) (.t 64), none, [9]⟩,
  ⟨(some 66), .ix 1 (.t 55) (.t 57), none, [0, 2, 0, 1, 2, 6, 7, 8]⟩,
  ⟨none, .store 1 (.t 66) (.t 63), none, [11, 8, 0, 1, 2, 6, 7, 8]⟩,
  ⟨(some 67), .ix 1 (.t 58) (.t 60), none, [3, 5, 0, 1, 2, 3, 4, 5, 6, 7, 8, 9, 10, 11, 12]⟩,
  ⟨none, .store 1 (.t 67) (.t 65), none, [13, 10, 12, 0, 1, 2, 3, 4, 5, 6, 7, 8, 9, 10, 11, 12]⟩])
(.seq (.reg true [⟨(some 68), .mv (.t 0), none, []⟩,
  ⟨(some 69), .mv (.t 4), none, []⟩,
  ⟨(some 70), .bin .sub (.t 69) (.d (.int .i64 5)), none, [1]⟩,
  ⟨(some 71), .mv (.t 0), none, []⟩,
  ⟨(some 72), .mv (.t 4), none, []⟩,
  ⟨(some 73), .bin .sub (.t 72) (.d (.int .i64 6)), none, [4]⟩,
  ⟨(some 74), .mv (.t 11), none, []⟩,
  ⟨(some 75), .bin .add (.t 74) (.d (.int .u32 1)), none, [6]⟩,
  ⟨(some 76), .gstr (.d (.str ⟨#[48, 48, 48, 49, 48, 50, 48, 51, 48, 52, 48, 53, 48, 54, 48, 55, 48, 56, 48, 57, 49, 48, 49, 49, 49, 50, 49, 51, 49, 52, 49, 53, 49, 54, 49, 55, 49, 56, 49, 57, 50, 48, 50, 49, 50, 50, 50, 51, 50, 52, 50, 53, 50, 54, 50, 55, 50, 56, 50, 57, 51, 48, 51, 49, 51, 50, 51, 51, 51, 52, 51, 53, 51, 54, 51, 55, 51, 56, 51, 57, 52, 48, 52, 49, 52, 50, 52, 51, 52, 52, 52, 53, 52, 54, 52, 55, 52, 56, 52, 57, 53, 48, 53, 49, 53, 50, 53, 51, 53, 52, 53, 53, 53, 54, 53, 55, 53, 56, 53, 57, 54, 48, 54, 49, 54, 50, 54, 51, 54, 52, 54, 53, 54, 54, 54, 55, 54, 56, 54, 57, 55, 48, 55, 49, 55, 50, 55, 51, 55, 52, 55, 53, 55, 54, 55, 55, 55, 56, 55, 57, 56, 48, 56, 49, 56, 50, 56, 51, 56, 52, 56, 53, 56, 54, 56, 55, 56, 56, 56, 57, 57, 48, 57, 49, 57, 50, 57, 51, 57, 52, 57, 53, 57, 54, 57, 55, 57, 56, 57, 57]⟩)) (.t 75), none, [7]⟩,
  ⟨(some 77), .mv (.t 11), none, []⟩,
  ⟨(some 78), .gstr (.d (.str ⟨#[48, 48, 48, 49, 48, 50, 48, 51, 48, 52, 48, 53, 48, 54, 48, 55, 48, 56, 48, 57, 49, 48, 49, 49, 49, 50, 49, 51, 49, 52, 49, 53, 49, 54, 49, 55, 49, 56, 49, 57, 50, 48, 50, 49, 50, 50, 50, 51, 50, 52, 50, 53, 50, 54, 50, 55, 50, 56, 50, 57, 51, 48, 51, 49, 51, 50, 51, 51, 51, 52, 51, 53, 51, 54, 51, 55, 51, 56, 51, 57, 52, 48, 52, 49, 52, 50, 52, 51, 52, 52, 52, 53, 52, 54, 52, 55, 52, 56, 52, 57, 53, 48, 53, 49, 53, 50, 53, 51, 53, 52, 53, 53, 53, 54, 53, 55, 53, 56, 53, 57, 54, 48, 54, 49, 54, 50, 54, 51, 54, 52, 54, 53, 54, 54, 54, 55, 54, 56, 54, 57, 55, 48, 55, 49, 55, 50, 55, 51, 55, 52, 55, 53, 55, 54, 55, 55, 55, 56, 55, 57, 56, 48, 56, 49, 56, 50, 56, 51, 56, 52, 56, 53, 56, 54, 56, 55, 56, 56, 56, 57, 57, 48, 57, 49, 57, 50, 57, 51, 57, 52, 57, 53, 57, 54, 57, 55, 57, 56, 57, 57]⟩)) (.t 77), none, [9]⟩,
  ⟨(some 79), .ix 1 (.t 68) (.t 70), none, [0, 2, 0, 1, 2, 6, 7, 8]⟩,
  ⟨none, .store 1 (.t 79) (.t 76), none, [11, 8, 0, 1, 2, 6, 7, 8]⟩,
  ⟨(some 80), .ix 1 (.t 71) (.t 73), none, [3, 5, 0, 1, 2, 3, 4, 5, 6, 7, 8, 9, 10, 11, 12]⟩,
  ⟨none, .store 1 (.t 80) (.t 78), none, [13, 10, 12, 0, 1, 2, 3, 4, 5, 6, 7, 8, 9, 10, 11, 12]⟩])
(.seq (.reg true [⟨(some 81), .mv (.t 0), none, []⟩,
  ⟨(some 82), .mv (.t 4), none, []⟩,
  ⟨(some 83), .bin .sub (.t 82) (.d (.int .i64 7)), none, [1]⟩,
  ⟨(some 84), .mv (.t 0), none, []⟩,
  ⟨(some 85), .mv (.t 4), none, []⟩,
  ⟨(some 86), .bin .sub (.t 85) (.d (.int .i64 8)), none, [4]⟩,
  ⟨(some 87), .mv (.t 10), none, []⟩,
  ⟨(some 88), .bin .add (.t 87) (.d (.int .u32 1)), none, [6]⟩,
  ⟨(some 89), .gstr (.d (.str ⟨#[48, 48, 48, 49, 48, 50, 48, 51, 48, 52, 48, 53, 48, 54, 48, 55, 48, 56, 48, 57, 49, 48, 49, 49, 49, 50, 49, 51, 49, 52, 49, 53, 49, 54, 49, 55, 49, 56, 49, 57, 50, 48, 50, 49, 50, 50, 50, 51, 50, 52, 50, 53, 50, 54, 50, 55, 50, 56, 50, 57, 51, 48, 51, 49, 51, 50, 51, 51, 51, 52, 51, 53, 51, 54, 51, 55, 51, 56, 51, 57, 52, 48, 52, 49, 52, 50, 52, 51, 52, 52, 52, 53, 52, 54, 52, 55, 52, 56, 52, 57, 53, 48, 53, 49, 53, 50, 53, 51, 53, 52, 53, 53, 53, 54, 53, 55, 53, 56, 53, 57, 54, 48, 54, 49, 54, 50, 54, 51, 54, 52, 54, 53, 54, 54, 54, 55, 54, 56, 54, 57, 55, 48, 55, 49, 55, 50, 55, 51, 55, 52, 55, 53, 55, 54, 55, 55, 55, 56, 55, 57, 56, 48, 56, 49, 56, 50, 56, 51, 56, 52, 56, 53, 56, 54, 56, 55, 56, 56, 56, 57, 57, 48, 57, 49, 57, 50, 57, 51, 57, 52, 57, 53, 57, 54, 57, 55, 57, 56, 57, 57]⟩)) (.t 88), none, [7]⟩,
  ⟨(some 90), .mv (.t 10), none, []⟩,
  ⟨(some 91), .gstr (.d (.str ⟨#[48, 48, 48, 49, 48, 50, 48, 51, 48, 52, 48, 53, 48, 54, 48, 55, 48, 56, 48, 57, 49, 48, 49, 49, 49, 50, 49, 51, 49, 52, 49, 53, 49, 54, 49, 55, 49, 56, 49, 57, 50, 48, 50, 49, 50, 50, 50, 51, 50, 52, 50, 53, 50, 54, 50, 55, 50, 56, 50, 57, 51, 48, 51, 49, 51, 50, 51, 51, 51, 52, 51, 53, 51, 54, 51, 55, 51, 56, 51, 57, 52, 48, 52, 49, 52, 50, 52, 51, 52, 52, 52, 53, 52, 54, 52, 55, 52, 56, 52, 57, 53, 48, 53, 49, 53, 50, 53, 51, 53, 52, 53, 53, 53, 54, 53, 55, 53, 56, 53, 57, 54, 48, 54, 49, 54, 50, 54, 51, 54, 52, 54, 53, 54, 54, 54, 55, 54, 56, 54, 57, 55, 48, 55, 49, 55, 50, 55, 51, 55, 52, 55, 53, 55, 54, 55, 55, 55, 56, 55, 57, 56, 48, 56, 49, 56, 50, 56, 51, 56, 52, 56, 53, 56, 54, 56, 55, 56, 56, 56, 57, 57, 48, 57, 49, 57, 50, 57, 51, 57, 52, 57, 53, 57, 54, 57, 55, 57, 56, 57, 57]⟩)) (.t 90), none, [9]⟩,
  ⟨(some 92), .ix 1 (.t 81) (.t 83), none, [0, 2, 0, 1, 2, 6, 7, 8]⟩,
  ⟨none, .store 1 (.t 92) (.t 89), none, [11, 8, 0, 1, 2, 6, 7, 8]⟩,
  ⟨(some 93), .ix 1 (.t 84) (.t 86), none, [3, 5, 0, 1, 2, 3, 4, 5, 6, 7, 8, 9, 10, 11, 12]⟩,
  ⟨none, .store 1 (.t 93) (.t 91), none, [13, 10, 12, 0, 1, 2, 3, 4, 5, 6, 7, 8, 9, 10, 11, 12]⟩])
(.reg false [⟨(some 94), .mv (.t 4), none, []⟩,
  ⟨(some 95), .bin .sub (.t 94) (.d (.int .i64 8)), none, [0]⟩,
  ⟨(some 4), .mv (.t 95), none, [1, 0, 1]⟩]))))))))))))))
(.seq (.reg false [⟨(some 96), .mv (.t 1), none, []⟩,
  ⟨(some 97), .conv .u32 (.t 96), none, [0]⟩,
  ⟨(some 12), .mv (.t 97), none, [1, 0, 1]⟩])
(.seq (.seq (.reg false [⟨(some 98), .mv (.t 4), none, []⟩,
  ⟨(some 99), .bin .geq (.t 98) (.d (.int .i64 4)), none, [0]⟩])
(.cond (.t 99)
 (.seq (.reg false [⟨(some 100), .mv (.t 12), none, []⟩,
   ⟨(some 101), .bin .rem (.t 100) (.d (.int .u32 10000)), none, [0]⟩,
   ⟨(some 13), .mv (.t 101), none, [1, 0, 1]⟩])
 (.seq (.reg false [⟨(some 102), .mv (.t 12), none, []⟩,
   ⟨(some 103), .bin .quo (.t 102) (.d (.int .u32 10000)), none, [0]⟩,
   ⟨(some 12), .mv (.t 103), none, [1, 0, 1]⟩])
 (.seq (.reg false [⟨(some 104), .mv (.t 13), none, []⟩,
   ⟨(some 105), .bin .quo (.t 104) (.d (.int .u32 100)), none, [0]⟩,
   ⟨(some 106), .bin .mul (.t 105) (.d (.int .u32 2)), none, [1]⟩,
   ⟨(some 107), .mv (.t 13), none, []⟩,
   ⟨(some 108), .bin .rem (.t 107) (.d (.int .u32 100)), none, [3]⟩,
   ⟨(some 109), .bin .mul (.t 108) (.d (.int .u32 2)), none, [4]⟩,
   ⟨(some 14), .mv (.t 106), none, [2, 0, 1, 2]⟩,
   ⟨(some 15), .mv (.t 109), none, [5, 6, 0, 1, 2, 3, 4, 5, 6]⟩])
 (.seq (.reg true [⟨(some 110), .mv (.t 0), none, []⟩,
   ⟨(some 111), .mv (.t 4), none, []⟩,
   ⟨(some 112), .bin .sub (.t 111) (.d (.int .i64 1)), none, [1]⟩,
   ⟨(some 113), .mv (.t 0), none, []⟩,
   ⟨(some 114), .mv (.t 4), none, []⟩,
   ⟨(some 115), .bin .sub (.t 114) (.d (.int .i64 2)), none, [4]⟩,
   ⟨(some 116), .mv (.t 15), none, []⟩,
   ⟨(some 117), .bin .add (.t 116) (.d (.int .u32 1)), none, [6]⟩,
   ⟨(some 118), .gstr (.d (.str ⟨#[48, 48, 48, 49, 48, 50, 48, 51, 48, 52, 48, 53, 48, 54, 48, 55, 48, 56, 48, 57, 49, 48, 49, 49, 49, 50, 49, 51, 49, 52, 49, 53, 49, 54, 49, 55, 49, 56, 49, 57, 50, 48, 50, 49, 50, 50, 50, 51, 50, 52, 50, 53, 50, 54, 50, 55, 50, 56, 50, 57, 51, 48, 51, 49, 51, 50, 51, 51, 51, 52, 51, 53, 51, 54, 51, 55, 51, 56, 51, 57, 52, 48, 52, 49, 52, 50, 52, 51, 52, 52, 52, 53, 52, 54, 52, 55, 52, 56, 52, 57, 53, 48, 53, 49, 53, 50, 53, 51, 53, 52, 53, 53, 53, 54, 53, 55, 53, 56, 53, 57, 54, 48, 54, 49, 54, 50, 54, 51, 54, 52, 54, 53, 54, 54, 54, 55, 54, 56, 54, 57, 55, 48, 55, 49, 55, 50, 55, 51, 55, 52, 55, 53, 55, 54, 55, 55, 55, 56, 55, 57, 56, 48, 56, 49, 56, 50, 56, 51, 56, 52, 56, 53, 56, 54, 56, 55, 56, 56, 56, 57, 57, 48, 57, 49, 57, 50, 57, 51, 57, 52, 57, 53, 57, 54, 57, 55, 57, 56, 57, 57]⟩)) (.t 117), none, [7]⟩,
   ⟨(some 119), .mv (.t 15), none, []⟩,
   ⟨(some 120), .gstr (.d (.str ⟨#[48, 48, 48, 49, 48, 50, 48, 51, 48, 52, 48, 53, 48, 54, 48, 55, 48, 56, 48, 57, 49, 48, 49, 49, 49, 50, 49, 51, 49, 52, 49, 53, 49, 54, 49, 55, 49, 56, 49, 57, 50, 48, 50, 49, 50, 50, 50, 51, 50, 52, 50, 53, 50, 54, 50, 55, 50, 56, 50, 57, 51, 48, 51, 49, 51, 50, 51, 51, 51, 52, 51, 53, 51, 54, 51, 55, 51, 56, 51, 57, 52, 48, 52, 49, 52, 50, 52, 51, 52, 52, 52, 53, 52, 54, 52, 55, 52, 56, 52, 57, 53, 48, 53, 49, 53, 50, 53, 51, 53, 52, 53, 53, 53, 54, 53, 55, 53, 56, 53, 57, 54, 48, 54, 49, 54, 50, 54, 51, 54, 52, 54, 53, 54, 54, 54, 55, 54, 56, 54, 57, 55, 48, 55, 49, 55, 50, 55, 51, 55, 52, 55, 53, 55, 54, 55, 55, 55, 56, 55, 57, 56, 48, 56, 49, 56, 50, 56, 51, 56, 52, 56, 53, 56, 54, 56, 55, 56, 56, 56, 57, 57, 48, 57, 49, 57, 50, 57, 51, 57, 52, 57, 53, 57, 54, 57, 55, 57, 56, 57, 57]⟩)) (.t 119), none, [9]⟩,
   ⟨(some 121), .ix 1 (.t 110) (.t 112), none, [0, 2, 0, 1, 2, 6, 7, 8]⟩,
   ⟨none, .store 1 (.t 121) (.t 118), none, [11, 8, 0, 1, 2, 6, 7, 8]⟩,
   ⟨(some 122), .ix 1 (.t 113) (.t 115), none, [3, 5, 0, 1, 2, 3, 4, 5, 6, 7, 8, 9, 10, 11, 12]⟩,
   ⟨none, .store 1 (.t 122) (.t 120), none, [13, 10, 12, 0, 1, 2, 3, 4, 5, 6, 7, 8, 9, 10, 11, 12]⟩])
 (.seq (.reg true [⟨(some 123), .mv (.t 0), none, []⟩,
   ⟨(some 124), .mv (.t 4), none, []⟩,
   ⟨(some 125), .bin .sub (.t 124) (.d (.int .i64 3)), none, [1]⟩,
   ⟨(some 126), .mv (.t 0), none, []⟩,
   ⟨(some 127), .mv (.t 4), none, []⟩,
   ⟨(some 128), .bin .sub (.t 127) (.d (.int .i64 4)), none, [4]⟩,
   ⟨(some 129), .mv (.t 14), none, []⟩,
   ⟨(some 130), .bin .add (.t 129) (.d (.int .u32 1)), none, [6]⟩,
   ⟨(some 131), .gstr (.d (.str ⟨#[48, 48, 48, 49, 48, 50, 48, 51, 48, 52, 48, 53, 48, 54, 48, 55, 48, 56, 48, 57, 49, 48, 49, 49, 49, 50, 49, 51, 49, 52, 49, 53, 49, 54, 49, 55, 49, 56, 49, 57, 50, 48, 50, 49, 50, 50, 50, 51, 50, 52, 50, 53, 50, 54, 50, 55, 50, 56, 50, 57, 51, 48, 51, 49, 51, 50, 51, 51, 51, 52, 51, 53, 51, 54, 51, 55, 51, 56, 51, 57, 52, 48, 52, 49, 52, 50, 52, 51, 52, 52, 52, 53, 52, 54, 52, 55, 52, 56, 52, 57, 53, 48, 53, 49, 53, 50, 53, 51, 53, 52, 53, 53, 53, 54, 53, 55, 53, 56, 53, 57, 54, 48, 54, 49, 54, 50, 54, 51, 54, 52, 54, 53, 54, 54, 54, 55, 54, 56, 54, 57, 55, 48, 55, 49, 55, 50, 55, 51, 55, 52, 55, 53, 55, 54, 55, 55, 55, 56, 55, 57, 56, 48, 56, 49, 56, 50, 56, 51, 56, 52, 56, 53, 56, 54, 56, 55, 56, 56, 56, 57, 57, 48, 57, 49, 57, 50, 57, 51, 57, 52, 57, 53, 57, 54, 57, 55, 57, 56, 57, 57]⟩)) (.t 130), none, [7]⟩,
   ⟨(some 132), .mv (.t 14), none, []⟩,
   ⟨(some 133), .gstr (.d (.str ⟨#[48, 48, 48, 49, 48, 50, 48, 51, 48, 52, 48, 53, 48, 54, 48, 55, 48, 56, 48, 57, 49, 48, 49, 49, 49, 50, 49, 51, 49, 52, 49, 53, 49, 54, 49, 55, 49, 56, 49, 57, 50, 48, 50, 49, 50, 50, 50, 51, 50, 52, 50, 53, 50, 54, 50, 55, 50, 56, 50, 57, 51, 48, 51, 49, 51, 50, 51, 51, 51, 52, 51, 53, 51, 54, 51, 55, 51, 56, 51, 57, 52, 48, 52, 49, 52, 50, 52, 51, 52, 52, 52, 53, 52, 54, 52, 55, 52, 56, 52, 57, 53, 48, 53, 49, 53, 50, 53, 51, 53, 52, 53, 53, 53, 54, 53, 55, 53, 56, 53, 57, 54, 48, 54, 49, 54, 50, 54, 51, 54, 52, 54, 53, 54, 54, 54, 55, 54, 56, 54, 57, 55, 48, 55, 49, 55, 50, 55, 51, 55, 52, 55, 53, 55, 54, 55, 55, 55, 56, 55, 57, 56, 48, 56, 49, 56, 50, 56, 51, 56, 52, 56, 53, 56, 54, 56, 55, 56, 56, 56, 57, 57, 48, 57, 49, 57, 50, 57, 51, 57, 52, 57, 53, 57, 54, 57, 55, 57, 56, 57, 57]⟩)) (.t 132), none, [9]⟩,
   ⟨(some 134), .ix 1 (.t 123) (.t 125), none, [0, 2, 0, 1, 2, 6, 7, 8]⟩,
   ⟨none, .store 1 (.t 134) (.t 131), none, [11, 8, 0, 1, 2, 6, 7, 8]⟩,
   ⟨(some 135), .ix 1 (.t 126) (.t 128), none, [3, 5, 0, 1, 2, 3, 4, 5, 6, 7, 8, 9, 10, 11, 12]⟩,
   ⟨none, .store 1 (.t 135) (.t 133), none, [13, 10, 12, 0, 1, 2, 3, 4, 5, 6, 7, 8, 9, 10, 11, 12]⟩])
 (.reg false [⟨(some 136), .mv (.t 4), none, []⟩,
   ⟨(some 137), .bin .sub (.t 136) (.d (.int .i64 4)), none, [0]⟩,
   ⟨(some 4), .mv (.t 137), none, [1, 0, 1]⟩]))))))
 .skip))
(.seq (.seq (.reg false [⟨(some 138), .mv (.t 4), none, []⟩,
  ⟨(some 139), .bin .geq (.t 138) (.d (.int .i64 2)), none, [0]⟩])
(.cond (.t 139)
 (.seq (.reg false [⟨(some 140), .mv (.t 12), none, []⟩,
   ⟨(some 141), .bin .rem (.t 140) (.d (.int .u32 100)), none, [0]⟩,
   ⟨(some 142), .bin .mul (.t 141) (.d (.int .u32 2)), none, [1]⟩,
   ⟨(some 16), .mv (.t 142), none, [2, 0, 1, 2]⟩])
 (.seq (.reg false [⟨(some 143), .mv (.t 12), none, []⟩,
   ⟨(some 144), .bin .quo (.t 143) (.d (.int .u32 100)), none, [0]⟩,
   ⟨(some 12), .mv (.t 144), none, [1, 0, 1]⟩])
 (.seq (.reg true [⟨(some 145), .mv (.t 0), none, []⟩,
   ⟨(some 146), .mv (.t 4), none, []⟩,
   ⟨(some 147), .bin .sub (.t 146) (.d (.int .i64 1)), none, [1]⟩,
   ⟨(some 148), .mv (.t 0), none, []⟩,
   ⟨(some 149), .mv (.t 4), none, []⟩,
   ⟨(some 150), .bin .sub (.t 149) (.d (.int .i64 2)), none, [4]⟩,
   ⟨(some 151), .mv (.t 16), none, []⟩,
   ⟨(some 152), .bin .add (.t 151) (.d (.int .u32 1)), none, [6]⟩,
   ⟨(some 153), .gstr (.d (.str ⟨#[48, 48, 48, 49, 48, 50, 48, 51, 48, 52, 48, 53, 48, 54, 48, 55, 48, 56, 48, 57, 49, 48, 49, 49, 49, 50, 49, 51, 49, 52, 49, 53, 49, 54, 49, 55, 49, 56, 49, 57, 50, 48, 50, 49, 50, 50, 50, 51, 50, 52, 50, 53, 50, 54, 50, 55, 50, 56, 50, 57, 51, 48, 51, 49, 51, 50, 51, 51, 51, 52, 51, 53, 51, 54, 51, 55, 51, 56, 51, 57, 52, 48, 52, 49, 52, 50, 52, 51, 52, 52, 52, 53, 52, 54, 52, 55, 52, 56, 52, 57, 53, 48, 53, 49, 53, 50, 53, 51, 53, 52, 53, 53, 53, 54, 53, 55, 53, 56, 53, 57, 54, 48, 54, 49, 54, 50, 54, 51, 54, 52, 54, 53, 54, 54, 54, 55, 54, 56, 54, 57, 55, 48, 55, 49, 55, 50, 55, 51, 55, 52, 55, 53, 55, 54, 55, 55, 55, 56, 55, 57, 56, 48, 56, 49, 56, 50, 56, 51, 56, 52, 56, 53, 56, 54, 56, 55, 56, 56, 56, 57, 57, 48, 57, 49, 57, 50, 57, 51, 57, 52, 57, 53, 57, 54, 57, 55, 57, 56, 57, 57]⟩)) (.t 152), none, [7]⟩,
   ⟨(some 154), .mv (.t 16), none, []⟩,
   ⟨(some 155), .gstr (.d (.str ⟨#[48, 48, 48, 49, 48, 50, 48, 51, 48, 52, 48, 53, 48, 54, 48, 55, 48, 56, 48, 57, 49, 48, 49, 49, 49, 50, 49, 51, 49, 52, 49, 53, 49, 54, 49, 55, 49, 56, 49, 57, 50, 48, 50, 49, 50, 50, 50, 51, 50, 52, 50, 53, 50, 54, 50, 55, 50, 56, 50, 57, 51, 48, 51, 49, 51, 50, 51, 51, 51, 52, 51, 53, 51, 54, 51, 55, 51, 56, 51, 57, 52, 48, 52, 49, 52, 50, 52, 51, 52, 52, 52, 53, 52, 54, 52, 55, 52, 56, 52, 57, 53, 48, 53, 49, 53, 50, 53, 51, 53, 52, 53, 53, 53, 54, 53, 55, 53, 56, 53, 57, 54, 48, 54, 49, 54, 50, 54, 51, 54, 52, 54, 53, 54, 54, 54, 55, 54, 56, 54, 57, 55, 48, 55, 49, 55, 50, 55, 51, 55, 52, 55, 53, 55, 54, 55, 55, 55, 56, 55, 57, 56, 48, 56, 49, 56, 50, 56, 51, 56, 52, 56, 53, 56, 54, 56, 55, 56, 56, 56, 57, 57, 48, 57, 49, 57, 50, 57, 51, 57, 52, 57, 53, 57, 54, 57, 55, 57, 56, 57, 57]⟩)) (.t 154), none, [9]⟩,
   ⟨(some 156), .ix 1 (.t 145) (.t 147), none, [0, 2, 0, 1, 2, 6, 7, 8]⟩,
   ⟨none, .store 1 (.t 156) (.t 153), none, [11, 8, 0, 1, 2, 6, 7, 8]⟩,
   ⟨(some 157), .ix 1 (.t 148) (.t 150), none, [3, 5, 0, 1, 2, 3, 4, 5, 6, 7, 8, 9, 10, 11, 12]⟩,
   ⟨none, .store 1 (.t 157) (.t 155), none, [13, 10, 12, 0, 1, 2, 3, 4, 5, 6, 7, 8, 9, 10, 11, 12]⟩])
 (.reg false [⟨(some 158), .mv (.t 4), none, []⟩,
   ⟨(some 159), .bin .sub (.t 158) (.d (.int .i64 2)), none, [0]⟩,
   ⟨(some 4), .mv (.t 159), none, [1, 0, 1]⟩]))))
 .skip))
(.seq (.reg false [⟨(some 160), .mv (.t 4), none, []⟩,
  ⟨(some 161), .bin .gtr (.t 160) (.d (.int .i64 0)), none, [0]⟩])
(.cond (.t 161)
 (.reg false [⟨(some 162), .mv (.t 0), none, []⟩,
   ⟨(some 163), .mv (.t 12), none, []⟩,
   ⟨(some 164), .bin .add (.d (.int .u32 48)) (.t 163), none, [1]⟩,
   ⟨(some 165), .conv .u8 (.t 164), none, [2]⟩,
   ⟨(some 166), .ix 1 (.t 162) (.d (.int .i64 0)), none, [0, 0, 1, 2, 3]⟩,
   ⟨none, .store 1 (.t 166) (.t 165), none, [4, 3, 0, 1, 2, 3]⟩])
 .skip)))))))
theorem r_internal_strconv_formatBase10 : fnOf Tryd.prog n_internal_strconv_formatBase10 = some (c_internal_strconv_formatBase10, [], 167, false) := by kernel_rfl

/-- internal/strconv.isPowerOfTwo -/
abbrev n_internal_strconv_isPowerOfTwo : FuncId := 103
def c_internal_strconv_isPowerOfTwo : C := (.seq (.reg false [⟨(some 2), .mv (.d (.bool false)), none, []⟩])
(.seq (.reg false [⟨(some 3), .mv (.t 0), none, []⟩,
  ⟨(some 4), .mv (.t 0), none, []⟩,
  ⟨(some 5), .bin .sub (.t 4) (.d (.int .i64 1)), none, [1]⟩,
  ⟨(some 6), .bin .and (.t 3) (.t 5), none, [0, 2]⟩,
  ⟨(some 7), .bin .eql (.t 6) (.d (.int .i64 0)), none, [3]⟩,
  ⟨(some 2), .mv (.t 7), none, [4, 0, 1, 2, 3, 4]⟩])
.ret))
theorem r_internal_strconv_isPowerOfTwo : fnOf Tryd.prog n_internal_strconv_isPowerOfTwo = some (c_internal_strconv_isPowerOfTwo, [.t 2], 8, false) := by kernel_rfl

/-- math/bits.TrailingZeros -/
abbrev n_math_bits_TrailingZeros : FuncId := 104
def c_math_bits_TrailingZeros : C := (.seq (.reg false [⟨(some 2), .mv (.d (.int .i64 0)), none, []⟩])
(.seq (.cond (.d (.bool false))
 (.seq (.reg false [⟨(some 3), .mv (.t 0), none, []⟩,
   ⟨(some 4), .conv .u32 (.t 3), none, [0]⟩,
   ⟨(some 5), .call 108 [(.t 4)], none, [1]⟩,
   ⟨(some 2), .mv (.t 5), none, [2, 2, 0, 1, 2]⟩])
 .ret)
 .skip)
(.seq (.reg false [⟨(some 6), .mv (.t 0), none, []⟩,
  ⟨(some 7), .call 109 [(.t 6)], none, [0]⟩,
  ⟨(some 2), .mv (.t 7), none, [1, 1, 0, 1]⟩])
.ret)))
theorem r_math_bits_TrailingZeros : fnOf Tryd.prog n_math_bits_TrailingZeros = some (c_math_bits_TrailingZeros, [.t 2], 8, false) := by kernel_rfl

/-- strconv.FormatUint -/
abbrev n_strconv_FormatUint : FuncId := 43
def c_strconv_FormatUint : C := (.seq (.reg false [⟨(some 4), .mv (.d (.str ⟨#[]⟩)), none, []⟩])
(.seq (.reg false [⟨(some 5), .mv (.t 0), none, []⟩,
  ⟨(some 6), .mv (.t 1), none, []⟩,
  ⟨(some 7), .call 70 [(.t 5), (.t 6)], none, [0, 1]⟩,
  ⟨(some 4), .mv (.t 7), none, [2, 2, 0, 1, 2]⟩])
.ret))
theorem r_strconv_FormatUint : fnOf Tryd.prog n_strconv_FormatUint = some (c_strconv_FormatUint, [.t 4], 8, false) := by kernel_rfl

/-- math/bits.Mul32 -/
abbrev n_math_bits_Mul32 : FuncId := 93
def c_math_bits_Mul32 : C := (.seq (.reg false [⟨(some 4), .mv (.d (.int .u32 0)), none, []⟩,
  ⟨(some 5), .mv (.d (.int .u32 0)), none, [0]⟩])
(.seq (.reg false [⟨(some 7), .mv (.t 0), none, []⟩,
  ⟨(some 8), .conv .u64 (.t 7), none, [0]⟩,
  ⟨(some 9), .mv (.t 1), none, []⟩,
  ⟨(some 10), .conv .u64 (.t 9), none, [2]⟩,
  ⟨(some 11), .bin .mul (.t 8) (.t 10), none, [1, 3]⟩,
  ⟨(some 6), .mv (.t 11), none, [4, 0, 1, 2, 3, 4]⟩])
(.seq (.reg false [⟨(some 12), .mv (.t 6), none, []⟩,
  ⟨(some 13), .bin .shr (.t 12) (.d (.int .u64 32)), none, [0]⟩,
  ⟨(some 14), .conv .u32 (.t 13), none, [1]⟩,
  ⟨(some 15), .mv (.t 6), none, []⟩,
  ⟨(some 16), .conv .u32 (.t 15), none, [3]⟩,
  ⟨(some 4), .mv (.t 14), none, [2, 0, 1, 2]⟩,
  ⟨(some 5), .mv (.t 16), none, [4, 5, 0, 1, 2, 3, 4, 5]⟩])
.ret)))
theorem r_math_bits_Mul32 : fnOf Tryd.prog n_math_bits_Mul32 = some (c_math_bits_Mul32, [.t 4, .t 5], 17, false) := by kernel_rfl

/-- math/bits.Mul -/
abbrev n_math_bits_Mul : FuncId := 71
def c_math_bits_Mul : C := (.seq (.reg false [⟨(some 4), .mv (.d (.int .u64 0)), none, []⟩,
  ⟨(some 5), .mv (.d (.int .u64 0)), none, [0]⟩])
(.seq (.cond (.d (.bool false))
 (.seq (.reg false [⟨(some 11), .mv (.t 0), none, []⟩,
   ⟨(some 12), .conv .u32 (.t 11), none, [0]⟩,
   ⟨(some 13), .mv (.t 1), none, []⟩,
   ⟨(some 14), .conv .u32 (.t 13), none, [2]⟩,
   ⟨(some 15), .call 93 [(.t 12), (.t 14)], none, [1, 3]⟩,
   ⟨(some 10), .mv (.t 15), none, [4]⟩,
   ⟨(some 16), .ext (.t 10) 0, none, [5]⟩,
   ⟨(some 17), .ext (.t 10) 1, none, [5]⟩,
   ⟨(some 6), .mv (.t 16), none, [6, 4, 0, 1, 2, 3, 4, 5, 6]⟩,
   ⟨(some 7), .mv (.t 17), none, [7, 8, 0, 1, 2, 3, 4, 5, 6, 7, 8]⟩])
 (.seq (.reg false [⟨(some 18), .mv (.t 6), none, []⟩,
   ⟨(some 19), .conv .u64 (.t 18), none, [0]⟩,
   ⟨(some 20), .mv (.t 7), none, []⟩,
   ⟨(some 21), .conv .u64 (.t 20), none, [2]⟩,
   ⟨(some 4), .mv (.t 19), none, [1, 0, 1]⟩,
   ⟨(some 5), .mv (.t 21), none, [3, 4, 0, 1, 2, 3, 4]⟩])
 .ret))
 .skip)
(.seq (.reg false [⟨(some 23), .mv (.t 0), none, []⟩,
  ⟨(some 24), .mv (.t 1), none, []⟩,
  ⟨(some 25), .call 85 [(.t 23), (.t 24)], none, [0, 1]⟩,
  ⟨(some 22), .mv (.t 25), none, [2]⟩,
  ⟨(some 26), .ext (.t 22) 0, none, [3]⟩,
  ⟨(some 27), .ext (.t 22) 1, none, [3]⟩,
  ⟨(some 8), .mv (.t 26), none, [4, 2, 0, 1, 2, 3, 4]⟩,
  ⟨(some 9), .mv (.t 27), none, [5, 6, 0, 1, 2, 3, 4, 5, 6]⟩])
(.seq (.reg false [⟨(some 28), .mv (.t 8), none, []⟩,
  ⟨(some 29), .mv (.t 9), none, []⟩,
  ⟨(some 4), .mv (.t 28), none, [0, 0]⟩,
  ⟨(some 5), .mv (.t 29), none, [1, 2, 0, 1, 2]⟩])
.ret))))
theorem r_math_bits_Mul : fnOf Tryd.prog n_math_bits_Mul = some (c_math_bits_Mul, [.t 4, .t 5], 30, false) := by kernel_rfl

/-- internal/stringslite.HasPrefix -/
abbrev n_internal_stringslite_HasPrefix : FuncId := 94
def c_internal_stringslite_HasPrefix : C := (.seq (.reg false [⟨(some 4), .mv (.d (.bool false)), none, []⟩])
(.seq (.reg false [⟨(some 5), .mv (.t 0), none, []⟩,
  ⟨(some 6), .lens (.t 5), none, [0]⟩,
  ⟨(some 7), .mv (.t 1), none, []⟩,
  ⟨(some 8), .lens (.t 7), none, [2]⟩,
  ⟨(some 9), .bin .geq (.t 6) (.t 8), none, [1, 3]⟩,
  ⟨(some 10), .mv (.t 9), none, [4]⟩,
  ⟨(some 11), .mv (.t 0), some (10, true), [5]⟩,
  ⟨(some 12), .mv (.t 1), some (10, true), [5]⟩,
  ⟨(some 13), .lens (.t 12), some (10, true), [7, 5]⟩,
  ⟨(some 14), .sstr (.t 11) none (some (.t 13)), some (10, true), [6, 8, 5]⟩,
  ⟨(some 15), .mv (.t 1), some (10, true), [5]⟩,
  ⟨(some 16), .bin .eql (.t 14) (.t 15), some (10, true), [9, 10, 5]⟩,
  ⟨(some 17), .pick (.t 10) (.t 16) (.d (.bool false)), none, [5, 11]⟩,
  ⟨(some 4), .mv (.t 17), none, [12, 5, 0, 1, 2, 3, 4, 5, 6, 7, 8, 9, 10, 11, 12]⟩])
.ret))
theorem r_internal_stringslite_HasPrefix : fnOf Tryd.prog n_internal_stringslite_HasPrefix = some (c_internal_stringslite_HasPrefix, [.t 4], 18, false) := by kernel_rfl

/-- strings.HasPrefix -/
abbrev n_strings_HasPrefix : FuncId := 72
def c_strings_HasPrefix : C := (.seq (.reg false [⟨(some 4), .mv (.d (.bool false)), none, []⟩])
(.seq (.reg false [⟨(some 5), .mv (.t 0), none, []⟩,
  ⟨(some 6), .mv (.t 1), none, []⟩,
  ⟨(some 7), .call 94 [(.t 5), (.t 6)], none, [0, 1]⟩,
  ⟨(some 4), .mv (.t 7), none, [2, 2, 0, 1, 2]⟩])
.ret))
theorem r_strings_HasPrefix : fnOf Tryd.prog n_strings_HasPrefix = some (c_strings_HasPrefix, [.t 4], 8, false) := by kernel_rfl

/-- internal/abi.NoEscape -/
abbrev n_internal_abi_NoEscape : FuncId := 105
theorem x_internal_abi_NoEscape : Tryd.prog.funcs[n_internal_abi_NoEscape]? = some Tryd.f105 := Tryd.func105
/-- internal/bytealg.MakeNoZero -/
abbrev n_internal_bytealg_MakeNoZero : FuncId := 106
theorem x_internal_bytealg_MakeNoZero : Tryd.prog.funcs[n_internal_bytealg_MakeNoZero]? = some Tryd.f106 := Tryd.func106
/-- (*strings.Builder).Len -/
abbrev n_strings_Builder_Len : FuncId := 75
def c_strings_Builder_Len : C := (.seq (.reg false [⟨(some 2), .mv (.d (.int .i64 0)), none, []⟩])
(.seq (.reg false [⟨(some 3), .mv (.t 0), none, []⟩,
  ⟨(some 4), .chk (.t 3), none, [0]⟩,
  ⟨(some 5), .fa 1 (.t 4), none, [1]⟩,
  ⟨(some 6), .load false 1 (.t 5), none, [2]⟩,
  ⟨(some 7), .len (.t 6), none, [3]⟩,
  ⟨(some 2), .mv (.t 7), none, [4, 0, 1, 2, 3, 4]⟩])
.ret))
theorem r_strings_Builder_Len : fnOf Tryd.prog n_strings_Builder_Len = some (c_strings_Builder_Len, [.t 2], 8, false) := by kernel_rfl

/-- (tallymark/nat.Nat).Text -/
abbrev n_nat_Nat_Text : FuncId := 12
def c_nat_Nat_Text : C := (.seq (.reg false [⟨(some 1), .box 25 (.t 0), none, []⟩,
  ⟨(some 2), .mv (.d (.str ⟨#[]⟩)), none, []⟩])
(.seq (.seq (.reg false [⟨(some 8), .load true 1 (.t 1), none, []⟩,
  ⟨(some 9), .call 29 [(.t 8)], none, [0]⟩])
(.cond (.t 9)
 (.seq (.reg false [⟨(some 2), .mv (.d (.str ⟨#[48]⟩)), none, []⟩])
 .ret)
 .skip))
(.seq (.reg false [⟨(some 3), .mv (.d (.str ⟨#[]⟩)), none, []⟩])
(.seq (.seq (.reg false [⟨(some 10), .fa 0 (.t 1), none, []⟩,
  ⟨(some 11), .load false 1 (.t 10), none, [0]⟩,
  ⟨(some 4), .mv (.t 11), none, [1, 0, 1]⟩])
(.block 0 (.loop (.seq (.seq (.reg false [⟨(some 12), .mv (.t 4), none, []⟩,
  ⟨(some 13), .len (.t 12), none, [0]⟩,
  ⟨(some 14), .bin .gtr (.t 13) (.d (.int .i64 0)), none, [1]⟩])
(.cond (.t 14)
 .skip
 (.exit 0)))
(.block 1 (.seq (.reg false [⟨(some 16), .mv (.t 4), none, []⟩,
  ⟨(some 17), .call 41 [(.t 16), (.d (.int .u64 1000000000000000000))], none, [0]⟩,
  ⟨(some 15), .mv (.t 17), none, [1]⟩,
  ⟨(some 18), .ext (.t 15) 0, none, [2]⟩,
  ⟨(some 19), .ext (.t 15) 1, none, [2]⟩,
  ⟨(some 5), .mv (.t 18), none, [3, 1, 0, 1, 2, 3]⟩,
  ⟨(some 6), .mv (.t 19), none, [4, 5, 0, 1, 2, 3, 4, 5]⟩])
(.seq (.reg false [⟨(some 20), .mv (.t 5), none, []⟩,
  ⟨(some 21), .call 42 [(.t 20)], none, [0]⟩,
  ⟨(some 22), .fld false 0 1 (.t 21), none, [1]⟩,
  ⟨(some 4), .mv (.t 22), none, [2, 1, 0, 1, 2]⟩])
(.seq (.reg false [⟨(some 23), .mv (.t 6), none, []⟩,
  ⟨(some 24), .call 43 [(.t 23), (.d (.int .i64 10))], none, [0]⟩,
  ⟨(some 7), .mv (.t 24), none, [1, 1, 0, 1]⟩])
(.seq (.seq (.reg false [⟨(some 25), .mv (.t 4), none, []⟩,
  ⟨(some 26), .len (.t 25), none, [0]⟩,
  ⟨(some 27), .bin .gtr (.t 26) (.d (.int .i64 0)), none, [1]⟩])
(.cond (.t 27)
 (.reg false [⟨(some 28), .mv (.t 7), none, []⟩,
   ⟨(some 29), .lens (.t 28), none, [0]⟩,
   ⟨(some 30), .bin .sub (.d (.int .i64 18)) (.t 29), none, [1]⟩,
   ⟨(some 31), .call 44 [(.d (.str ⟨#[48]⟩)), (.t 30)], none, [2]⟩,
   ⟨(some 32), .mv (.t 7), none, []⟩,
   ⟨(some 33), .bin .add (.t 31) (.t 32), none, [3, 4]⟩,
   ⟨(some 7), .mv (.t 33), none, [5, 3, 0, 1, 2, 3, 4, 5]⟩])
 .skip))
(.reg false [⟨(some 34), .mv (.t 7), none, []⟩,
  ⟨(some 35), .mv (.t 3), none, []⟩,
  ⟨(some 36), .bin .add (.t 34) (.t 35), none, [0, 1]⟩,
  ⟨(some 3), .mv (.t 36), none, [2, 0, 1, 2]⟩]))))))))))
(.seq (.reg false [⟨(some 37), .mv (.t 3), none, []⟩,
  ⟨(some 2), .mv (.t 37), none, [0, 0]⟩])
.ret)))))
theorem r_nat_Nat_Text : fnOf Tryd.prog n_nat_Nat_Text = some (c_nat_Nat_Text, [.t 2], 38, false) := by kernel_rfl

/-- (tallymark/rat.Rat).Whole -/
abbrev n_rat_Rat_Whole : FuncId := 53
def c_rat_Rat_Whole : C := (.seq (.reg false [⟨(some 1), .box 56 (.t 0), none, []⟩,
  ⟨(some 2), .mv (.d (.bool false)), none, []⟩])
(.seq (.reg false [⟨(some 3), .fa 2 (.t 1), none, []⟩,
  ⟨(some 4), .load true 1 (.t 3), none, [0]⟩,
  ⟨(some 5), .call 29 [(.t 4)], none, [1]⟩,
  ⟨(some 2), .mv (.t 5), none, [2, 2, 0, 1, 2]⟩])
.ret))
theorem r_rat_Rat_Whole : fnOf Tryd.prog n_rat_Rat_Whole = some (c_rat_Rat_Whole, [.t 2], 6, false) := by kernel_rfl

/-- (tallymark/whole.Whole).Text -/
abbrev n_whole_Whole_Text : FuncId := 54
def c_whole_Whole_Text : C := (.seq (.reg false [⟨(some 1), .box 54 (.t 0), none, []⟩,
  ⟨(some 2), .mv (.d (.str ⟨#[]⟩)), none, []⟩])
(.seq (.seq (.reg false [⟨(some 3), .fa 1 (.t 1), none, []⟩,
  ⟨(some 4), .load false 1 (.t 3), none, [0]⟩])
(.cond (.t 4)
 (.seq (.reg false [⟨(some 5), .fa 0 (.t 1), none, []⟩,
   ⟨(some 6), .load true 1 (.t 5), none, [0]⟩,
   ⟨(some 7), .call 12 [(.t 6)], none, [1]⟩,
   ⟨(some 8), .bin .add (.d (.str ⟨#[45]⟩)) (.t 7), none, [2]⟩,
   ⟨(some 2), .mv (.t 8), none, [3, 2, 0, 1, 2, 3]⟩])
 .ret)
 .skip))
(.seq (.reg false [⟨(some 9), .fa 0 (.t 1), none, []⟩,
  ⟨(some 10), .load true 1 (.t 9), none, [0]⟩,
  ⟨(some 11), .call 12 [(.t 10)], none, [1]⟩,
  ⟨(some 2), .mv (.t 11), none, [2, 2, 0, 1, 2]⟩])
.ret)))
theorem r_whole_Whole_Text : fnOf Tryd.prog n_whole_Whole_Text = some (c_whole_Whole_Text, [.t 2], 12, false) := by kernel_rfl

/-- tallymark/nat.Add -/
abbrev n_nat_Add : FuncId := 15
def c_nat_Add : C := (.seq (.reg false [⟨(some 2), .box 25 (.t 0), none, []⟩,
  ⟨(some 3), .box 25 (.t 1), none, []⟩,
  ⟨(some 4), .new 25 [.nilsl], none, []⟩])
(.seq (.seq (.reg false [⟨(some 10), .fa 0 (.t 2), none, []⟩,
  ⟨(some 11), .load false 1 (.t 10), none, [0]⟩,
  ⟨(some 12), .len (.t 11), none, [1]⟩,
  ⟨(some 13), .fa 0 (.t 3), none, []⟩,
  ⟨(some 14), .load false 1 (.t 13), none, [3]⟩,
  ⟨(some 15), .len (.t 14), none, [4]⟩,
  ⟨(some 16), .bin .lss (.t 12) (.t 15), none, [2, 5]⟩])
(.cond (.t 16)
 (.reg false [⟨(some 17), .load true 1 (.t 3), none, []⟩,
   ⟨(some 18), .load true 1 (.t 2), none, []⟩,
   ⟨none, .store 1 (.t 2) (.t 17), none, [0, 0, 1]⟩,
   ⟨none, .store 1 (.t 3) (.t 18), none, [1, 2, 0, 1, 2]⟩])
 .skip))
(.seq (.reg false [⟨(some 19), .fa 0 (.t 2), none, []⟩,
  ⟨(some 20), .load false 1 (.t 19), none, [0]⟩,
  ⟨(some 21), .len (.t 20), none, [1]⟩,
  ⟨(some 22), .bin .add (.t 21) (.d (.int .i64 1)), none, [2]⟩,
  ⟨(some 23), .mksl 34 1 8 [(.int .u64 0)] (.t 22) (.t 22), none, [3, 3]⟩,
  ⟨(some 5), .mv (.t 23), none, [4, 0, 1, 2, 3, 4]⟩])
(.seq (.reg false [⟨(some 6), .mv (.d (.int .u64 0)), none, []⟩])
(.seq (.seq (.reg false [⟨(some 24), .fa 0 (.t 2), none, []⟩,
  ⟨(some 25), .load false 1 (.t 24), none, [0]⟩,
  ⟨(some 26), .len (.t 25), none, [1]⟩,
  ⟨(some 27), .mv (.d (.int .i64 0)), none, []⟩])
(.block 0 (.loop (.seq (.reg false [⟨(some 28), .bin .lss (.t 27) (.t 26), none, []⟩])
(.seq (.cond (.t 28)
 .skip
 (.exit 0))
(.seq (.block 1 (.seq (.reg false [⟨(some 29), .mv (.t 27), none, []⟩,
  ⟨(some 30), .ix 1 (.t 25) (.t 27), none, []⟩,
  ⟨(some 31), .load false 1 (.t 30), none, [1]⟩,
  ⟨(some 7), .mv (.t 29), none, [0, 0, 1, 2]⟩,
  ⟨(some 8), .mv (.t 31), none, [2, 3, 0, 1, 2, 3]⟩])
(.seq (.reg false [⟨(some 9), .mv (.d (.int .u64 0)), none, []⟩])
(.seq (.seq (.reg false [⟨(some 32), .mv (.t 7), none, []⟩,
  ⟨(some 33), .fa 0 (.t 3), none, []⟩,
  ⟨(some 34), .load false 1 (.t 33), none, [1]⟩,
  ⟨(some 35), .len (.t 34), none, [2]⟩,
  ⟨(some 36), .bin .lss (.t 32) (.t 35), none, [0, 3]⟩])
(.cond (.t 36)
 (.reg false [⟨(some 37), .fa 0 (.t 3), none, []⟩,
   ⟨(some 38), .load false 1 (.t 37), none, [0]⟩,
   ⟨(some 39), .mv (.t 7), none, []⟩,
   ⟨(some 40), .ix 1 (.t 38) (.t 39), none, [1, 2]⟩,
   ⟨(some 41), .load false 1 (.t 40), none, [3]⟩,
   ⟨(some 9), .mv (.t 41), none, [4, 0, 1, 2, 3, 4]⟩])
 .skip))
(.reg false [⟨(some 43), .mv (.t 5), none, []⟩,
  ⟨(some 44), .mv (.t 7), none, []⟩,
  ⟨(some 45), .mv (.t 8), none, []⟩,
  ⟨(some 46), .mv (.t 9), none, []⟩,
  ⟨(some 47), .mv (.t 6), none, []⟩,
  ⟨(some 48), .call 47 [(.t 45), (.t 46), (.t 47)], none, [2, 3, 4]⟩,
  ⟨(some 42), .mv (.t 48), none, [5]⟩,
  ⟨(some 49), .ext (.t 42) 0, none, [6]⟩,
  ⟨(some 50), .ext (.t 42) 1, none, [6]⟩,
  ⟨(some 51), .ix 1 (.t 43) (.t 44), none, [0, 1, 0, 1, 2, 3, 4, 5, 6, 7]⟩,
  ⟨none, .store 1 (.t 51) (.t 49), none, [9, 7, 5, 0, 1, 2, 3, 4, 5, 6, 7]⟩,
  ⟨(some 6), .mv (.t 50), none, [8, 10, 0, 1, 2, 3, 4, 5, 6, 7, 8, 9, 10]⟩])))))
(.reg false [⟨(some 52), .bin .add (.t 27) (.d (.int .i64 1)), none, []⟩,
  ⟨(some 27), .mv (.t 52), none, [0]⟩])))))))
(.seq (.reg false [⟨(some 53), .mv (.t 5), none, []⟩,
  ⟨(some 54), .fa 0 (.t 2), none, []⟩,
  ⟨(some 55), .load false 1 (.t 54), none, [1]⟩,
  ⟨(some 56), .len (.t 55), none, [2]⟩,
  ⟨(some 57), .mv (.t 6), none, []⟩,
  ⟨(some 58), .ix 1 (.t 53) (.t 56), none, [0, 3, 0, 1, 2, 3, 4]⟩,
  ⟨none, .store 1 (.t 58) (.t 57), none, [5, 4, 0, 1, 2, 3, 4]⟩])
(.seq (.reg false [⟨(some 59), .mv (.t 5), none, []⟩,
  ⟨(some 60), .call 42 [(.t 59)], none, [0]⟩,
  ⟨none, .store 1 (.t 4) (.t 60), none, [1, 1, 0, 1]⟩])
.ret)))))))
theorem r_nat_Add : fnOf Tryd.prog n_nat_Add = some (c_nat_Add, [.cell 4 true 1], 61, false) := by kernel_rfl

/-- (tallymark/rat.Rat).Den -/
abbrev n_rat_Rat_Den : FuncId := 55
def c_rat_Rat_Den : C := (.seq (.reg false [⟨(some 1), .box 56 (.t 0), none, []⟩,
  ⟨(some 2), .new 25 [.nilsl], none, []⟩])
(.seq (.reg true [⟨(some 3), .fa 2 (.t 1), none, []⟩,
  ⟨(some 4), .load true 1 (.t 3), none, [0]⟩,
  ⟨(some 5), .bsl 34 1 1 [(.int .u64 0)] [(0, 1, (.d (.int .u64 1)))], none, []⟩,
  ⟨(some 6), .call 13 [(.t 5)], none, [2]⟩,
  ⟨(some 7), .call 15 [(.t 4), (.t 6)], none, [1, 3, 3]⟩,
  ⟨none, .store 1 (.t 2) (.t 7), none, [4, 4, 0, 1, 2, 3, 4]⟩])
.ret))
theorem r_rat_Rat_Den : fnOf Tryd.prog n_rat_Rat_Den = some (c_rat_Rat_Den, [.cell 2 true 1], 8, false) := by kernel_rfl

/-- (tallymark/rat.Rat).Text -/
abbrev n_rat_Rat_Text : FuncId := 28
def c_rat_Rat_Text : C := (.seq (.reg false [⟨(some 1), .box 56 (.t 0), none, []⟩,
  ⟨(some 2), .mv (.d (.str ⟨#[]⟩)), none, []⟩])
(.seq (.seq (.reg false [⟨(some 3), .load true 3 (.t 1), none, []⟩,
  ⟨(some 4), .call 53 [(.t 3)], none, [0]⟩])
(.cond (.t 4)
 (.seq (.reg false [⟨(some 5), .fa 0 (.t 1), none, []⟩,
   ⟨(some 6), .load true 2 (.t 5), none, [0]⟩,
   ⟨(some 7), .call 54 [(.t 6)], none, [1]⟩,
   ⟨(some 2), .mv (.t 7), none, [2, 2, 0, 1, 2]⟩])
 .ret)
 .skip))
(.seq (.reg true [⟨(some 8), .fa 0 (.t 1), none, []⟩,
  ⟨(some 9), .load true 2 (.t 8), none, [0]⟩,
  ⟨(some 10), .call 54 [(.t 9)], none, [1]⟩,
  ⟨(some 11), .bin .add (.t 10) (.d (.str ⟨#[47]⟩)), none, [2]⟩,
  ⟨(some 12), .load true 3 (.t 1), none, []⟩,
  ⟨(some 13), .call 55 [(.t 12)], none, [4, 2]⟩,
  ⟨(some 14), .call 12 [(.t 13)], none, [5, 5]⟩,
  ⟨(some 15), .bin .add (.t 11) (.t 14), none, [3, 6]⟩,
  ⟨(some 2), .mv (.t 15), none, [7, 6, 0, 1, 2, 3, 4, 5, 6, 7]⟩])
.ret)))
theorem r_rat_Rat_Text : fnOf Tryd.prog n_rat_Rat_Text = some (c_rat_Rat_Text, [.t 2], 16, false) := by kernel_rfl

/-- tallymark/tallymarklaw13.awake -/
abbrev n_Tlaw13_awake : FuncId := 23
def c_Tlaw13_awake : C := (.seq (.reg false [⟨(some 0), .mv (.d (.bool false)), none, []⟩])
(.seq (.reg false [⟨(some 6), .call 25 [(.d (.int .i64 1)), (.d (.int .i64 5))], none, []⟩,
  ⟨(some 5), .mv (.t 6), none, [0]⟩,
  ⟨(some 7), .ext (.t 5) 0, none, [1]⟩,
  ⟨(some 8), .ext (.t 5) 1, none, [1]⟩,
  ⟨(some 1), .new 25 [.nilsl], none, []⟩,
  ⟨none, .store 1 (.t 1) (.t 7), none, [4, 2, 0, 0, 1, 2, 4]⟩,
  ⟨(some 2), .mv (.t 8), none, [3, 5, 0, 1, 2, 3, 4, 5]⟩])
(.seq (.reg false [⟨(some 10), .call 24 [(.d (.int .i64 1)), (.d (.int .i64 4))], none, []⟩,
  ⟨(some 9), .mv (.t 10), none, [0]⟩,
  ⟨(some 11), .ext (.t 9) 0, none, [1]⟩,
  ⟨(some 12), .ext (.t 9) 1, none, [1]⟩,
  ⟨(some 3), .new 56 [.nilsl, (.bool false), .nilsl], none, []⟩,
  ⟨none, .store 3 (.t 3) (.t 11), none, [4, 2, 0, 0, 1, 2, 4]⟩,
  ⟨(some 4), .mv (.t 12), none, [3, 5, 0, 1, 2, 3, 4, 5]⟩])
(.seq (.reg false [⟨(some 13), .mv (.t 2), none, []⟩,
  ⟨(some 14), .bin .eql (.t 13) (.d (.int .i64 0)), none, [0]⟩,
  ⟨(some 15), .mv (.t 14), none, [1]⟩,
  ⟨(some 16), .mv (.t 4), some (15, true), [2]⟩,
  ⟨(some 17), .bin .eql (.t 16) (.d (.int .i64 0)), some (15, true), [3, 2]⟩,
  ⟨(some 18), .pick (.t 15) (.t 17) (.d (.bool false)), none, [2, 4]⟩,
  ⟨(some 19), .mv (.t 18), none, [5, 2]⟩,
  ⟨(some 20), .load true 1 (.t 1), some (19, true), [6]⟩,
  ⟨(some 21), .call 12 [(.t 20)], some (19, true), [7, 6, 6]⟩,
  ⟨(some 22), .bin .eql (.t 21) (.d (.str ⟨#[49, 48]⟩)), some (19, true), [8, 6]⟩,
  ⟨(some 23), .pick (.t 19) (.t 22) (.d (.bool false)), none, [6, 9]⟩,
  ⟨(some 24), .mv (.t 23), none, [10, 8]⟩,
  ⟨(some 25), .load true 3 (.t 3), some (24, true), [11]⟩,
  ⟨(some 26), .call 28 [(.t 25)], some (24, true), [12, 11, 11]⟩,
  ⟨(some 27), .bin .eql (.t 26) (.d (.str ⟨#[49, 47, 52]⟩)), some (24, true), [13, 11]⟩,
  ⟨(some 28), .pick (.t 24) (.t 27) (.d (.bool false)), none, [11, 14]⟩,
  ⟨(some 29), .mv (.t 28), none, [15, 13]⟩,
  ⟨(some 30), .call 27 [(.d (.int .i64 8))], some (29, true), [16, 16]⟩,
  ⟨(some 31), .pick (.t 29) (.t 30) (.d (.bool false)), none, [16, 17]⟩,
  ⟨(some 0), .mv (.t 31), none, [18, 17, 0, 1, 2, 3, 4, 5, 6, 7, 8, 9, 10, 11, 12, 13, 14, 15, 16, 17, 18]⟩])
.ret))))
theorem r_Tlaw13_awake : fnOf Tryd.prog n_Tlaw13_awake = some (c_Tlaw13_awake, [.t 0], 32, false) := by kernel_rfl

/-- tallymark/tallymarklaw09.Few -/
abbrev n_Tlaw09_Few : FuncId := 16
def c_Tlaw09_Few : C := (.seq (.reg false [⟨(some 4), .mv (.d .nilsl), none, []⟩])
(.seq (.seq (.reg false [⟨(some 5), .mv (.t 0), none, []⟩,
  ⟨(some 6), .len (.t 5), none, [0]⟩,
  ⟨(some 7), .mv (.t 1), none, []⟩,
  ⟨(some 8), .bin .gtr (.t 6) (.t 7), none, [1, 2]⟩])
(.cond (.t 8)
 (.seq (.reg false [⟨(some 9), .mv (.t 0), none, []⟩,
   ⟨(some 10), .mv (.t 1), none, []⟩,
   ⟨(some 11), .slice 1 (.t 9) none (some (.t 10)) none, none, [0, 1]⟩,
   ⟨(some 4), .mv (.t 11), none, [2, 0, 1, 2]⟩])
 .ret)
 .skip))
(.seq (.reg false [⟨(some 12), .mv (.t 0), none, []⟩,
  ⟨(some 4), .mv (.t 12), none, [0, 0]⟩])
.ret)))
theorem r_Tlaw09_Few : fnOf Tryd.prog n_Tlaw09_Few = some (c_Tlaw09_Few, [.t 4], 13, false) := by kernel_rfl

/-- slices.Clone[[]bool,bool] -/
abbrev n_slices_Clone_bool_bool : FuncId := 48
def c_slices_Clone_bool_bool : C := (.seq (.reg false [⟨(some 2), .mv (.d .nilsl), none, []⟩])
(.seq (.seq (.reg false [⟨(some 3), .mv (.t 0), none, []⟩,
  ⟨(some 4), .snl false (.t 3), none, [0]⟩])
(.cond (.t 4)
 (.seq (.reg false [⟨(some 2), .mv (.d .nilsl), none, []⟩])
 .ret)
 .skip))
(.seq (.reg false [⟨(some 5), .bsl0, none, []⟩,
  ⟨(some 6), .mv (.t 0), none, []⟩,
  ⟨(some 7), .app 4 1 1 (.t 5) (.t 6), none, [0, 1]⟩,
  ⟨(some 2), .mv (.t 7), none, [2, 2, 0, 1, 2]⟩])
.ret)))
theorem r_slices_Clone_bool_bool : fnOf Tryd.prog n_slices_Clone_bool_bool = some (c_slices_Clone_bool_bool, [.t 2], 8, false) := by kernel_rfl

/-- tallymark/tape.New -/
abbrev n_tape_New : FuncId := 17
def c_tape_New : C := (.seq (.reg false [⟨(some 2), .mv (.d .nilp), none, []⟩])
(.seq (.reg false [⟨(some 3), .mv (.t 0), none, []⟩,
  ⟨(some 4), .mv (.t 0), none, []⟩,
  ⟨(some 5), .len (.t 4), none, [1]⟩,
  ⟨(some 6), .mm false [(.t 5), (.d (.int .i64 1048576))], none, [2]⟩,
  ⟨(some 7), .slice 1 (.t 3) none (some (.t 6)) none, none, [0, 3]⟩,
  ⟨(some 8), .call 48 [(.t 7)], none, [4]⟩,
  ⟨(some 9), .build [(.int .i64 0), (.bool false), .nilsl] [(2, 1, (.t 8))], none, [5]⟩,
  ⟨(some 10), .box 83 (.t 9), none, [6]⟩,
  ⟨(some 2), .mv (.t 10), none, [7, 5, 0, 1, 2, 3, 4, 5, 6, 7]⟩])
.ret))
theorem r_tape_New : fnOf Tryd.prog n_tape_New = some (c_tape_New, [.t 2], 11, false) := by kernel_rfl

/-- (*tallymark/tape.Tape).Flip -/
abbrev n_tape_Tape_Flip : FuncId := 77
def c_tape_Tape_Flip : C := (.seq (.reg false [⟨(some 2), .mv (.d (.bool false)), none, []⟩,
  ⟨(some 3), .mv (.d (.int .i64 0)), none, [0]⟩])
(.seq (.seq (.reg true [⟨(some 4), .mv (.t 0), none, []⟩,
  ⟨(some 5), .chk (.t 4), none, [0]⟩,
  ⟨(some 6), .fa 0 (.t 5), none, [1]⟩,
  ⟨(some 7), .fa 1 (.t 6), none, [2]⟩,
  ⟨(some 8), .load false 1 (.t 7), none, [3]⟩,
  ⟨(some 9), .mv (.t 8), none, [4]⟩,
  ⟨(some 10), .mv (.t 0), some (9, false), [5]⟩,
  ⟨(some 11), .chk (.t 10), some (9, false), [6, 5]⟩,
  ⟨(some 12), .fa 0 (.t 11), some (9, false), [7, 5]⟩,
  ⟨(some 13), .fa 0 (.t 12), some (9, false), [8, 5]⟩,
  ⟨(some 14), .load false 1 (.t 13), some (9, false), [9, 5]⟩,
  ⟨(some 15), .mv (.t 0), some (9, false), [5]⟩,
  ⟨(some 16), .chk (.t 15), some (9, false), [11, 5]⟩,
  ⟨(some 17), .fa 2 (.t 16), some (9, false), [12, 5]⟩,
  ⟨(some 18), .load false 1 (.t 17), some (9, false), [13, 5]⟩,
  ⟨(some 19), .len (.t 18), some (9, false), [14, 5]⟩,
  ⟨(some 20), .bin .eql (.t 14) (.t 19), some (9, false), [10, 15, 5]⟩,
  ⟨(some 21), .pick (.t 9) (.d (.bool true)) (.t 20), none, [5, 16]⟩])
(.cond (.t 21)
 (.seq (.reg false [⟨(some 22), .mv (.t 0), none, []⟩,
   ⟨(some 23), .chk (.t 22), none, [0, 0]⟩,
   ⟨(some 24), .fa 0 (.t 23), none, [1, 0]⟩,
   ⟨(some 25), .fa 1 (.t 24), none, [2, 0]⟩,
   ⟨none, .store 1 (.t 25) (.d (.bool true)), none, [3, 0]⟩])
 (.seq (.reg false [⟨(some 2), .mv (.d (.bool false)), none, []⟩,
   ⟨(some 3), .mv (.d (.int .i64 8)), none, [0, 0]⟩])
 .ret))
 .skip))
(.seq (.reg false [⟨(some 26), .mv (.t 0), none, []⟩,
  ⟨(some 27), .chk (.t 26), none, [0]⟩,
  ⟨(some 28), .fa 0 (.t 27), none, [1]⟩,
  ⟨(some 29), .fa 0 (.t 28), none, [2]⟩,
  ⟨(some 30), .load false 1 (.t 29), none, [3]⟩,
  ⟨(some 31), .bin .add (.t 30) (.d (.int .i64 1)), none, [4]⟩,
  ⟨(some 32), .chk (.t 26), none, [0, 0, 1, 2, 3, 4, 5]⟩,
  ⟨(some 33), .fa 0 (.t 32), none, [6, 0, 1, 2, 3, 4, 5]⟩,
  ⟨(some 34), .fa 0 (.t 33), none, [7, 0, 1, 2, 3, 4, 5]⟩,
  ⟨none, .store 1 (.t 34) (.t 31), none, [8, 5, 0, 1, 2, 3, 4, 5]⟩])
(.seq (.reg true [⟨(some 35), .mv (.t 0), none, []⟩,
  ⟨(some 36), .chk (.t 35), none, [0]⟩,
  ⟨(some 37), .fa 2 (.t 36), none, [1]⟩,
  ⟨(some 38), .load false 1 (.t 37), none, [2]⟩,
  ⟨(some 39), .mv (.t 0), none, []⟩,
  ⟨(some 40), .chk (.t 39), none, [4]⟩,
  ⟨(some 41), .fa 0 (.t 40), none, [5]⟩,
  ⟨(some 42), .fa 0 (.t 41), none, [6]⟩,
  ⟨(some 43), .load false 1 (.t 42), none, [7]⟩,
  ⟨(some 44), .bin .sub (.t 43) (.d (.int .i64 1)), none, [8]⟩,
  ⟨(some 45), .ix 1 (.t 38) (.t 44), none, [3, 9]⟩,
  ⟨(some 46), .load false 1 (.t 45), none, [10]⟩,
  ⟨(some 2), .mv (.t 46), none, [11, 0, 1, 2, 3, 4, 5, 6, 7, 8, 9, 10, 11]⟩,
  ⟨(some 3), .mv (.d (.int .i64 0)), none, [12, 0, 1, 2, 3, 4, 5, 6, 7, 8, 9, 10, 11, 12]⟩])
.ret))))
theorem r_tape_Tape_Flip : fnOf Tryd.prog n_tape_Tape_Flip = some (c_tape_Tape_Flip, [.t 2, .t 3], 47, false) := by kernel_rfl

/-- tallymark/flip.Half -/
abbrev n_flip_Half : FuncId := 49
def c_flip_Half : C := (.seq (.reg false [⟨(some 4), .mv (.d (.bool false)), none, []⟩,
  ⟨(some 5), .mv (.d (.int .i64 0)), none, [0]⟩])
(.seq (.seq (.reg false [⟨(some 8), .mv (.t 1), none, []⟩,
  ⟨(some 9), .mm true [(.d (.int .i64 0)), (.t 8)], none, [0]⟩,
  ⟨(some 10), .mv (.d (.int .i64 0)), none, []⟩])
(.block 0 (.loop (.seq (.reg false [⟨(some 11), .bin .lss (.t 10) (.t 9), none, []⟩])
(.seq (.cond (.t 11)
 .skip
 (.exit 0))
(.seq (.block 1 (.seq (.reg false [⟨(some 13), .mv (.t 0), none, []⟩,
  ⟨(some 14), .call 77 [(.t 13)], none, [0]⟩,
  ⟨(some 12), .mv (.t 14), none, [1]⟩,
  ⟨(some 15), .ext (.t 12) 0, none, [2]⟩,
  ⟨(some 16), .ext (.t 12) 1, none, [2]⟩,
  ⟨(some 6), .mv (.t 15), none, [3, 1, 0, 1, 2, 3]⟩,
  ⟨(some 7), .mv (.t 16), none, [4, 5, 0, 1, 2, 3, 4, 5]⟩])
(.seq (.reg false [⟨(some 17), .mv (.t 6), none, []⟩,
  ⟨(some 18), .un .not (.t 17), none, [0]⟩])
(.cond (.t 18)
 (.seq (.reg false [⟨(some 19), .mv (.t 7), none, []⟩,
   ⟨(some 4), .mv (.d (.bool false)), none, []⟩,
   ⟨(some 5), .mv (.t 19), none, [0, 1, 0, 1]⟩])
 .ret)
 .skip))))
(.reg false [⟨(some 20), .bin .add (.t 10) (.d (.int .i64 1)), none, []⟩,
  ⟨(some 10), .mv (.t 20), none, [0]⟩])))))))
(.seq (.reg false [⟨(some 4), .mv (.d (.bool true)), none, []⟩,
  ⟨(some 5), .mv (.d (.int .i64 0)), none, [0, 0]⟩])
.ret)))
theorem r_flip_Half : fnOf Tryd.prog n_flip_Half = some (c_flip_Half, [.t 4, .t 5], 21, false) := by kernel_rfl

/-- tallymark/float.Step -/
abbrev n_float_Step : FuncId := 35
def c_float_Step : C := (.seq (.reg false [⟨(some 6), .mv (.d (.bool false)), none, []⟩,
  ⟨(some 7), .mv (.d (.int .i64 0)), none, [0]⟩])
(.seq (.seq (.reg false [⟨(some 11), .mv (.t 1), none, []⟩,
  ⟨(some 12), .mv (.t 2), none, []⟩,
  ⟨(some 13), .bsl 3 1 1 [(.int .i64 0)] [(0, 1, (.t 12))], none, [1]⟩,
  ⟨(some 14), .call 50 [(.t 11), (.t 13)], none, [0, 2]⟩,
  ⟨(some 8), .mv (.t 14), none, [3, 3, 0, 1, 2, 3]⟩])
(.seq (.reg false [⟨(some 15), .mv (.t 8), none, []⟩,
  ⟨(some 16), .bin .neq (.t 15) (.d (.int .i64 0)), none, [0]⟩])
(.cond (.t 16)
 (.seq (.reg false [⟨(some 17), .mv (.t 8), none, []⟩,
   ⟨(some 6), .mv (.d (.bool false)), none, []⟩,
   ⟨(some 7), .mv (.t 17), none, [0, 1, 0, 1]⟩])
 .ret)
 .skip)))
(.seq (.reg false [⟨(some 19), .mv (.t 1), none, []⟩,
  ⟨(some 20), .mv (.t 2), none, []⟩,
  ⟨(some 21), .call 51 [(.t 19), (.t 20)], none, [0, 1]⟩,
  ⟨(some 18), .mv (.t 21), none, [2]⟩,
  ⟨(some 22), .ext (.t 18) 0, none, [3]⟩,
  ⟨(some 23), .ext (.t 18) 1, none, [3]⟩,
  ⟨(some 9), .mv (.t 22), none, [4, 2, 0, 1, 2, 3, 4]⟩,
  ⟨(some 10), .mv (.t 23), none, [5, 6, 0, 1, 2, 3, 4, 5, 6]⟩])
(.seq (.reg false [⟨(some 24), .mv (.t 0), none, []⟩,
  ⟨(some 25), .mv (.t 9), none, []⟩,
  ⟨(some 26), .call 49 [(.t 24), (.t 25)], none, [0, 1]⟩,
  ⟨(some 27), .ext (.t 26) 0, none, [2]⟩,
  ⟨(some 28), .ext (.t 26) 1, none, [2]⟩,
  ⟨(some 6), .mv (.t 27), none, [3, 2, 0, 1, 2, 3, 4]⟩,
  ⟨(some 7), .mv (.t 28), none, [4, 5, 0, 1, 2, 3, 4, 5]⟩])
.ret))))
theorem r_float_Step : fnOf Tryd.prog n_float_Step = some (c_float_Step, [.t 6, .t 7], 29, false) := by kernel_rfl

/-- tallymark/tallymarkref13.Wrong -/
abbrev n_Tref13_Wrong : FuncId := 26
def c_Tref13_Wrong : C := (.seq (.reg false [⟨(some 4), .mv (.d (.int .i64 0)), none, []⟩])
(.seq (.seq (.reg false [⟨(some 5), .mv (.t 0), none, []⟩,
  ⟨(some 6), .bin .lss (.t 5) (.d (.int .i64 0)), none, [0]⟩,
  ⟨(some 7), .mv (.t 6), none, [1]⟩,
  ⟨(some 8), .mv (.t 0), some (7, false), [2]⟩,
  ⟨(some 9), .bin .gtr (.t 8) (.d (.int .i64 8)), some (7, false), [3, 2]⟩,
  ⟨(some 10), .pick (.t 7) (.d (.bool true)) (.t 9), none, [2, 4]⟩])
(.cond (.t 10)
 (.seq (.reg false [⟨(some 4), .mv (.d (.int .i64 10)), none, []⟩])
 .ret)
 .skip))
(.seq (.seq (.reg false [⟨(some 11), .mv (.t 1), none, []⟩,
  ⟨(some 12), .bin .lss (.t 11) (.d (.int .i64 0)), none, [0]⟩,
  ⟨(some 13), .mv (.t 12), none, [1]⟩,
  ⟨(some 14), .mv (.t 1), some (13, false), [2]⟩,
  ⟨(some 15), .bin .gtr (.t 14) (.d (.int .i64 1023)), some (13, false), [3, 2]⟩,
  ⟨(some 16), .pick (.t 13) (.d (.bool true)) (.t 15), none, [2, 4]⟩])
(.cond (.t 16)
 (.seq (.reg false [⟨(some 4), .mv (.d (.int .i64 2)), none, []⟩])
 .ret)
 .skip))
(.seq (.reg false [⟨(some 4), .mv (.d (.int .i64 0)), none, []⟩])
.ret))))
theorem r_Tref13_Wrong : fnOf Tryd.prog n_Tref13_Wrong = some (c_Tref13_Wrong, [.t 4], 17, false) := by kernel_rfl

/-- (*tallymark/tape.Tape).Read -/
abbrev n_tape_Tape_Read : FuncId := 20
def c_tape_Tape_Read : C := (.seq (.reg false [⟨(some 2), .mv (.d (.int .i64 0)), none, []⟩])
(.seq (.reg false [⟨(some 3), .mv (.t 0), none, []⟩,
  ⟨(some 4), .chk (.t 3), none, [0]⟩,
  ⟨(some 5), .fa 0 (.t 4), none, [1]⟩,
  ⟨(some 6), .fa 0 (.t 5), none, [2]⟩,
  ⟨(some 7), .load false 1 (.t 6), none, [3]⟩,
  ⟨(some 2), .mv (.t 7), none, [4, 0, 1, 2, 3, 4]⟩])
.ret))
theorem r_tape_Tape_Read : fnOf Tryd.prog n_tape_Tape_Read = some (c_tape_Tape_Read, [.t 2], 8, false) := by kernel_rfl

/-- tallymark/tallymarkref13.Size -/
abbrev n_Tref13_Size : FuncId := 58
def c_Tref13_Size : C := (.seq (.reg false [⟨(some 2), .mv (.d (.int .i64 0)), none, []⟩])
(.seq (.reg false [⟨(some 3), .mv (.d (.int .i64 1)), none, []⟩])
(.seq (.seq (.reg false [⟨(some 4), .mv (.d (.int .i64 0)), none, []⟩])
(.block 0 (.loop (.seq (.seq (.reg false [⟨(some 5), .mv (.t 4), none, []⟩,
  ⟨(some 6), .mv (.t 0), none, []⟩,
  ⟨(some 7), .bin .lss (.t 5) (.t 6), none, [0, 1]⟩])
(.cond (.t 7)
 .skip
 (.exit 0)))
(.seq (.block 1 (.reg false [⟨(some 10), .mv (.t 3), none, []⟩,
  ⟨(some 11), .bin .mul (.d (.int .i64 2)) (.t 10), none, [0]⟩,
  ⟨(some 3), .mv (.t 11), none, [1, 0, 1]⟩]))
(.reg false [⟨(some 8), .mv (.t 4), none, []⟩,
  ⟨(some 9), .bin .add (.t 8) (.d (.int .i64 1)), none, [0]⟩,
  ⟨(some 4), .mv (.t 9), none, [1, 0, 1]⟩]))))))
(.seq (.reg false [⟨(some 12), .mv (.t 3), none, []⟩,
  ⟨(some 2), .mv (.t 12), none, [0, 0]⟩])
.ret))))
theorem r_Tref13_Size : fnOf Tryd.prog n_Tref13_Size = some (c_Tref13_Size, [.t 2], 13, false) := by kernel_rfl

/-- tallymark/tallymarkref13.Exp -/
abbrev n_Tref13_Exp : FuncId := 31
def c_Tref13_Exp : C := (.seq (.reg false [⟨(some 4), .mv (.d (.int .i64 0)), none, []⟩])
(.seq (.reg false [⟨(some 5), .mv (.t 1), none, []⟩,
  ⟨(some 6), .mv (.t 0), none, []⟩,
  ⟨(some 7), .call 58 [(.t 6)], none, [1]⟩,
  ⟨(some 8), .bin .quo (.t 5) (.t 7), none, [0, 2]⟩,
  ⟨(some 4), .mv (.t 8), none, [3, 2, 0, 1, 2, 3]⟩])
.ret))
theorem r_Tref13_Exp : fnOf Tryd.prog n_Tref13_Exp = some (c_Tref13_Exp, [.t 4], 9, false) := by kernel_rfl

/-- tallymark/tallymarkref10.Half -/
abbrev n_Tref10_Half : FuncId := 21
def c_Tref10_Half : C := (.seq (.reg false [⟨(some 6), .new 49 [(.bool false), (.int .i64 0), (.int .i64 0)], none, []⟩])
(.seq (.seq (.reg false [⟨(some 7), .mv (.d (.int .i64 0)), none, []⟩])
(.block 0 (.loop (.seq (.seq (.reg false [⟨(some 8), .mv (.t 7), none, []⟩,
  ⟨(some 9), .mv (.t 2), none, []⟩,
  ⟨(some 10), .bin .lss (.t 8) (.t 9), none, [0, 1]⟩])
(.cond (.t 10)
 .skip
 (.exit 0)))
(.seq (.block 1 (.seq (.seq (.reg false [⟨(some 13), .mv (.t 1), none, []⟩,
  ⟨(some 14), .mv (.t 7), none, []⟩,
  ⟨(some 15), .bin .add (.t 13) (.t 14), none, [0, 1]⟩,
  ⟨(some 16), .mv (.t 0), none, []⟩,
  ⟨(some 17), .len (.t 16), none, [3]⟩,
  ⟨(some 18), .bin .geq (.t 15) (.t 17), none, [2, 4]⟩])
(.cond (.t 18)
 (.seq (.reg false [⟨(some 19), .mv (.t 7), none, []⟩,
   ⟨(some 20), .build [(.bool false), (.int .i64 0), (.int .i64 0)] [(0, 1, (.d (.bool false))), (1, 1, (.t 19)), (2, 1, (.d (.int .i64 8)))], none, [0]⟩,
   ⟨none, .store 3 (.t 6) (.t 20), none, [1, 0, 1]⟩])
 .ret)
 .skip))
(.seq (.reg false [⟨(some 21), .mv (.t 0), none, []⟩,
  ⟨(some 22), .mv (.t 1), none, []⟩,
  ⟨(some 23), .mv (.t 7), none, []⟩,
  ⟨(some 24), .bin .add (.t 22) (.t 23), none, [1, 2]⟩,
  ⟨(some 25), .ix 1 (.t 21) (.t 24), none, [0, 3]⟩,
  ⟨(some 26), .load false 1 (.t 25), none, [4]⟩,
  ⟨(some 27), .un .not (.t 26), none, [5]⟩])
(.cond (.t 27)
 (.seq (.reg false [⟨(some 28), .mv (.t 7), none, []⟩,
   ⟨(some 29), .bin .add (.t 28) (.d (.int .i64 1)), none, [0]⟩,
   ⟨(some 30), .build [(.bool false), (.int .i64 0), (.int .i64 0)] [(0, 1, (.d (.bool false))), (1, 1, (.t 29)), (2, 1, (.d (.int .i64 0)))], none, [1]⟩,
   ⟨none, .store 3 (.t 6) (.t 30), none, [2, 0, 1, 2]⟩])
 .ret)
 .skip))))
(.reg false [⟨(some 11), .mv (.t 7), none, []⟩,
  ⟨(some 12), .bin .add (.t 11) (.d (.int .i64 1)), none, [0]⟩,
  ⟨(some 7), .mv (.t 12), none, [1, 0, 1]⟩]))))))
(.seq (.seq (.reg false [⟨(some 31), .mv (.t 2), none, []⟩,
  ⟨(some 32), .bin .lss (.t 31) (.d (.int .i64 0)), none, [0]⟩])
(.cond (.t 32)
 (.reg false [⟨(some 2), .mv (.d (.int .i64 0)), none, []⟩])
 .skip))
(.seq (.reg false [⟨(some 33), .mv (.t 2), none, []⟩,
  ⟨(some 34), .build [(.bool false), (.int .i64 0), (.int .i64 0)] [(0, 1, (.d (.bool true))), (1, 1, (.t 33)), (2, 1, (.d (.int .i64 0)))], none, [0]⟩,
  ⟨none, .store 3 (.t 6) (.t 34), none, [1, 0, 1]⟩])
.ret))))
theorem r_Tref10_Half : fnOf Tryd.prog n_Tref10_Half = some (c_Tref10_Half, [.cell 6 true 3], 35, false) := by kernel_rfl

/-- tallymark/float.Again -/
abbrev n_float_Again : FuncId := 36
def c_float_Again : C := (.seq (.reg false [⟨(some 8), .mv (.d (.bool false)), none, []⟩,
  ⟨(some 9), .mv (.d (.int .i64 0)), none, [0]⟩])
(.seq (.seq (.reg false [⟨(some 15), .mv (.t 1), none, []⟩,
  ⟨(some 16), .mv (.t 2), none, []⟩,
  ⟨(some 17), .mv (.t 3), none, []⟩,
  ⟨(some 18), .bsl 3 1 2 [(.int .i64 0), (.int .i64 0)] [(0, 1, (.t 16)), (1, 1, (.t 17))], none, [1, 2]⟩,
  ⟨(some 19), .call 50 [(.t 15), (.t 18)], none, [0, 3]⟩,
  ⟨(some 10), .mv (.t 19), none, [4, 4, 0, 1, 2, 3, 4]⟩])
(.seq (.reg false [⟨(some 20), .mv (.t 10), none, []⟩,
  ⟨(some 21), .bin .neq (.t 20) (.d (.int .i64 0)), none, [0]⟩])
(.cond (.t 21)
 (.seq (.reg false [⟨(some 22), .mv (.t 10), none, []⟩,
   ⟨(some 8), .mv (.d (.bool false)), none, []⟩,
   ⟨(some 9), .mv (.t 22), none, [0, 1, 0, 1]⟩])
 .ret)
 .skip)))
(.seq (.reg false [⟨(some 24), .mv (.t 1), none, []⟩,
  ⟨(some 25), .mv (.t 2), none, []⟩,
  ⟨(some 26), .call 51 [(.t 24), (.t 25)], none, [0, 1]⟩,
  ⟨(some 23), .mv (.t 26), none, [2]⟩,
  ⟨(some 27), .ext (.t 23) 0, none, [3]⟩,
  ⟨(some 28), .ext (.t 23) 1, none, [3]⟩,
  ⟨(some 11), .mv (.t 27), none, [4, 2, 0, 1, 2, 3, 4]⟩,
  ⟨(some 12), .mv (.t 28), none, [5, 6, 0, 1, 2, 3, 4, 5, 6]⟩])
(.seq (.reg false [⟨(some 30), .mv (.t 1), none, []⟩,
  ⟨(some 31), .mv (.t 3), none, []⟩,
  ⟨(some 32), .call 51 [(.t 30), (.t 31)], none, [0, 1]⟩,
  ⟨(some 29), .mv (.t 32), none, [2]⟩,
  ⟨(some 33), .ext (.t 29) 0, none, [3]⟩,
  ⟨(some 34), .ext (.t 29) 1, none, [3]⟩,
  ⟨(some 13), .mv (.t 33), none, [4, 2, 0, 1, 2, 3, 4]⟩,
  ⟨(some 14), .mv (.t 34), none, [5, 6, 0, 1, 2, 3, 4, 5, 6]⟩])
(.seq (.reg false [⟨(some 35), .mv (.t 0), none, []⟩,
  ⟨(some 36), .mv (.t 11), none, []⟩,
  ⟨(some 37), .mv (.t 13), none, []⟩,
  ⟨(some 38), .bin .sub (.t 36) (.t 37), none, [1, 2]⟩,
  ⟨(some 39), .call 49 [(.t 35), (.t 38)], none, [0, 3]⟩,
  ⟨(some 40), .ext (.t 39) 0, none, [4]⟩,
  ⟨(some 41), .ext (.t 39) 1, none, [4]⟩,
  ⟨(some 8), .mv (.t 40), none, [5, 4, 0, 1, 2, 3, 4, 5, 6]⟩,
  ⟨(some 9), .mv (.t 41), none, [6, 7, 0, 1, 2, 3, 4, 5, 6, 7]⟩])
.ret)))))
theorem r_float_Again : fnOf Tryd.prog n_float_Again = some (c_float_Again, [.t 8, .t 9], 42, false) := by kernel_rfl

/-- tallymark/tallymarklaw13.FloatSteps -/
abbrev n_Tlaw13_FloatSteps : FuncId := 7
def c_Tlaw13_FloatSteps : C := (.seq (.reg false [⟨(some 5), .box 40 (.t 2), none, []⟩,
  ⟨(some 6), .mv (.d (.bool false)), none, []⟩])
(.seq (.seq (.reg false [⟨(some 13), .call 23 [], none, []⟩,
  ⟨(some 14), .un .not (.t 13), none, [0]⟩])
(.cond (.t 14)
 (.seq (.reg false [⟨(some 6), .mv (.d (.bool false)), none, []⟩])
 .ret)
 .skip))
(.seq (.reg false [⟨(some 15), .mv (.t 0), none, []⟩,
  ⟨(some 16), .call 16 [(.t 15), (.d (.int .i64 300))], none, [0]⟩,
  ⟨(some 0), .mv (.t 16), none, [1, 1, 0, 1]⟩])
(.seq (.reg false [⟨(some 17), .mv (.t 0), none, []⟩,
  ⟨(some 18), .call 17 [(.t 17)], none, [0]⟩,
  ⟨(some 7), .mv (.t 18), none, [1, 1, 0, 1]⟩])
(.seq (.reg false [⟨(some 20), .mv (.t 7), none, []⟩,
  ⟨(some 21), .mv (.t 1), none, []⟩,
  ⟨(some 22), .ixa 2 1 (.t 5) (.d (.int .i64 0)), none, []⟩,
  ⟨(some 23), .load false 1 (.t 22), none, [2]⟩,
  ⟨(some 24), .call 35 [(.t 20), (.t 21), (.t 23)], none, [0, 1, 3]⟩,
  ⟨(some 19), .mv (.t 24), none, [4]⟩,
  ⟨(some 25), .ext (.t 19) 0, none, [5]⟩,
  ⟨(some 26), .ext (.t 19) 1, none, [5]⟩,
  ⟨(some 8), .mv (.t 25), none, [6, 4, 0, 1, 2, 3, 4, 5, 6]⟩,
  ⟨(some 9), .mv (.t 26), none, [7, 8, 0, 1, 2, 3, 4, 5, 6, 7, 8]⟩])
(.seq (.seq (.reg false [⟨(some 27), .mv (.t 1), none, []⟩,
  ⟨(some 28), .ixa 2 1 (.t 5) (.d (.int .i64 0)), none, []⟩,
  ⟨(some 29), .load false 1 (.t 28), none, [1]⟩,
  ⟨(some 30), .call 26 [(.t 27), (.t 29)], none, [0, 2]⟩,
  ⟨(some 10), .mv (.t 30), none, [3, 3, 0, 1, 2, 3]⟩])
(.seq (.reg false [⟨(some 31), .mv (.t 10), none, []⟩,
  ⟨(some 32), .bin .neq (.t 31) (.d (.int .i64 0)), none, [0]⟩])
(.cond (.t 32)
 (.seq (.reg false [⟨(some 33), .mv (.t 9), none, []⟩,
   ⟨(some 34), .mv (.t 10), none, []⟩,
   ⟨(some 35), .bin .eql (.t 33) (.t 34), none, [0, 1]⟩,
   ⟨(some 36), .mv (.t 35), none, [2]⟩,
   ⟨(some 37), .mv (.t 8), some (36, true), [3]⟩,
   ⟨(some 38), .un .not (.t 37), some (36, true), [4, 3]⟩,
   ⟨(some 39), .pick (.t 36) (.t 38) (.d (.bool false)), none, [3, 5]⟩,
   ⟨(some 40), .mv (.t 39), none, [6, 3]⟩,
   ⟨(some 41), .mv (.t 7), some (40, true), [7]⟩,
   ⟨(some 42), .call 20 [(.t 41)], some (40, true), [8, 7, 7]⟩,
   ⟨(some 43), .bin .eql (.t 42) (.d (.int .i64 0)), some (40, true), [9, 7]⟩,
   ⟨(some 44), .pick (.t 40) (.t 43) (.d (.bool false)), none, [7, 10]⟩,
   ⟨(some 6), .mv (.t 44), none, [11, 9, 0, 1, 2, 3, 4, 5, 6, 7, 8, 9, 10, 11]⟩])
 .ret)
 .skip)))
(.seq (.reg false [⟨(some 45), .mv (.t 0), none, []⟩,
  ⟨(some 46), .mv (.t 1), none, []⟩,
  ⟨(some 47), .ixa 2 1 (.t 5) (.d (.int .i64 0)), none, []⟩,
  ⟨(some 48), .load false 1 (.t 47), none, [2]⟩,
  ⟨(some 49), .call 31 [(.t 46), (.t 48)], none, [1, 3]⟩,
  ⟨(some 50), .call 21 [(.t 45), (.d (.int .i64 0)), (.t 49)], none, [0, 4, 4]⟩,
  ⟨(some 11), .new 49 [(.bool false), (.int .i64 0), (.int .i64 0)], none, []⟩,
  ⟨none, .store 3 (.t 11) (.t 50), none, [6, 5, 5, 0, 1, 2, 3, 4, 5, 6]⟩])
(.seq (.seq (.reg true [⟨(some 51), .mv (.t 8), none, []⟩,
  ⟨(some 52), .fa 0 (.t 11), none, []⟩,
  ⟨(some 53), .load false 1 (.t 52), none, [1]⟩,
  ⟨(some 54), .beq true (.t 51) (.t 53), none, [0, 2]⟩,
  ⟨(some 55), .mv (.t 54), none, [3]⟩,
  ⟨(some 56), .mv (.t 9), some (55, false), [4]⟩,
  ⟨(some 57), .fa 2 (.t 11), some (55, false), [4]⟩,
  ⟨(some 58), .load false 1 (.t 57), some (55, false), [6, 4]⟩,
  ⟨(some 59), .bin .neq (.t 56) (.t 58), some (55, false), [5, 7, 4]⟩,
  ⟨(some 60), .pick (.t 55) (.d (.bool true)) (.t 59), none, [4, 8]⟩,
  ⟨(some 61), .mv (.t 60), none, [9, 4]⟩,
  ⟨(some 62), .mv (.t 7), some (61, false), [10]⟩,
  ⟨(some 63), .call 20 [(.t 62)], some (61, false), [11, 10, 10]⟩,
  ⟨(some 64), .fa 1 (.t 11), some (61, false), [10]⟩,
  ⟨(some 65), .load false 1 (.t 64), some (61, false), [13, 10]⟩,
  ⟨(some 66), .bin .neq (.t 63) (.t 65), some (61, false), [12, 14, 10]⟩,
  ⟨(some 67), .pick (.t 61) (.d (.bool true)) (.t 66), none, [10, 15]⟩])
(.cond (.t 67)
 (.seq (.reg false [⟨(some 6), .mv (.d (.bool false)), none, []⟩])
 .ret)
 .skip))
(.seq (.reg false [⟨(some 68), .mv (.t 0), none, []⟩,
  ⟨(some 69), .call 17 [(.t 68)], none, [0]⟩,
  ⟨(some 7), .mv (.t 69), none, [1, 1, 0, 1]⟩])
(.seq (.reg false [⟨(some 71), .mv (.t 7), none, []⟩,
  ⟨(some 72), .mv (.t 1), none, []⟩,
  ⟨(some 73), .ixa 2 1 (.t 5) (.d (.int .i64 0)), none, []⟩,
  ⟨(some 74), .load false 1 (.t 73), none, [2]⟩,
  ⟨(some 75), .ixa 2 1 (.t 5) (.d (.int .i64 1)), none, []⟩,
  ⟨(some 76), .load false 1 (.t 75), none, [4]⟩,
  ⟨(some 77), .call 36 [(.t 71), (.t 72), (.t 74), (.t 76)], none, [0, 1, 3, 5]⟩,
  ⟨(some 70), .mv (.t 77), none, [6]⟩,
  ⟨(some 78), .ext (.t 70) 0, none, [7]⟩,
  ⟨(some 79), .ext (.t 70) 1, none, [7]⟩,
  ⟨(some 8), .mv (.t 78), none, [8, 6, 0, 1, 2, 3, 4, 5, 6, 7, 8]⟩,
  ⟨(some 9), .mv (.t 79), none, [9, 10, 0, 1, 2, 3, 4, 5, 6, 7, 8, 9, 10]⟩])
(.seq (.seq (.reg false [⟨(some 80), .mv (.t 1), none, []⟩,
  ⟨(some 81), .ixa 2 1 (.t 5) (.d (.int .i64 1)), none, []⟩,
  ⟨(some 82), .load false 1 (.t 81), none, [1]⟩,
  ⟨(some 83), .call 26 [(.t 80), (.t 82)], none, [0, 2]⟩,
  ⟨(some 12), .mv (.t 83), none, [3, 3, 0, 1, 2, 3]⟩])
(.seq (.reg false [⟨(some 84), .mv (.t 12), none, []⟩,
  ⟨(some 85), .bin .neq (.t 84) (.d (.int .i64 0)), none, [0]⟩])
(.cond (.t 85)
 (.seq (.reg false [⟨(some 86), .mv (.t 9), none, []⟩,
   ⟨(some 87), .mv (.t 12), none, []⟩,
   ⟨(some 88), .bin .eql (.t 86) (.t 87), none, [0, 1]⟩,
   ⟨(some 89), .mv (.t 88), none, [2]⟩,
   ⟨(some 90), .mv (.t 8), some (89, true), [3]⟩,
   ⟨(some 91), .un .not (.t 90), some (89, true), [4, 3]⟩,
   ⟨(some 92), .pick (.t 89) (.t 91) (.d (.bool false)), none, [3, 5]⟩,
   ⟨(some 93), .mv (.t 92), none, [6, 3]⟩,
   ⟨(some 94), .mv (.t 7), some (93, true), [7]⟩,
   ⟨(some 95), .call 20 [(.t 94)], some (93, true), [8, 7, 7]⟩,
   ⟨(some 96), .bin .eql (.t 95) (.d (.int .i64 0)), some (93, true), [9, 7]⟩,
   ⟨(some 97), .pick (.t 93) (.t 96) (.d (.bool false)), none, [7, 10]⟩,
   ⟨(some 6), .mv (.t 97), none, [11, 9, 0, 1, 2, 3, 4, 5, 6, 7, 8, 9, 10, 11]⟩])
 .ret)
 .skip)))
(.seq (.reg true [⟨(some 98), .mv (.t 0), none, []⟩,
  ⟨(some 99), .mv (.t 1), none, []⟩,
  ⟨(some 100), .ixa 2 1 (.t 5) (.d (.int .i64 0)), none, []⟩,
  ⟨(some 101), .load false 1 (.t 100), none, [2]⟩,
  ⟨(some 102), .call 31 [(.t 99), (.t 101)], none, [1, 3]⟩,
  ⟨(some 103), .mv (.t 1), none, []⟩,
  ⟨(some 104), .ixa 2 1 (.t 5) (.d (.int .i64 1)), none, []⟩,
  ⟨(some 105), .load false 1 (.t 104), none, [6]⟩,
  ⟨(some 106), .call 31 [(.t 103), (.t 105)], none, [5, 7, 4]⟩,
  ⟨(some 107), .bin .sub (.t 102) (.t 106), none, [4, 8]⟩,
  ⟨(some 108), .call 21 [(.t 98), (.d (.int .i64 0)), (.t 107)], none, [0, 9, 8]⟩,
  ⟨none, .store 3 (.t 11) (.t 108), none, [10, 10, 0, 1, 2, 3, 4, 5, 6, 7, 8, 9, 10]⟩])
(.seq (.reg true [⟨(some 109), .mv (.t 8), none, []⟩,
  ⟨(some 110), .fa 0 (.t 11), none, []⟩,
  ⟨(some 111), .load false 1 (.t 110), none, [1]⟩,
  ⟨(some 112), .beq false (.t 109) (.t 111), none, [0, 2]⟩,
  ⟨(some 113), .mv (.t 112), none, [3]⟩,
  ⟨(some 114), .mv (.t 9), some (113, true), [4]⟩,
  ⟨(some 115), .fa 2 (.t 11), some (113, true), [4]⟩,
  ⟨(some 116), .load false 1 (.t 115), some (113, true), [6, 4]⟩,
  ⟨(some 117), .bin .eql (.t 114) (.t 116), some (113, true), [5, 7, 4]⟩,
  ⟨(some 118), .pick (.t 113) (.t 117) (.d (.bool false)), none, [4, 8]⟩,
  ⟨(some 119), .mv (.t 118), none, [9, 4]⟩,
  ⟨(some 120), .mv (.t 7), some (119, true), [10]⟩,
  ⟨(some 121), .call 20 [(.t 120)], some (119, true), [11, 10, 10]⟩,
  ⟨(some 122), .fa 1 (.t 11), some (119, true), [10]⟩,
  ⟨(some 123), .load false 1 (.t 122), some (119, true), [13, 10]⟩,
  ⟨(some 124), .bin .eql (.t 121) (.t 123), some (119, true), [12, 14, 10]⟩,
  ⟨(some 125), .pick (.t 119) (.t 124) (.d (.bool false)), none, [10, 15]⟩,
  ⟨(some 6), .mv (.t 125), none, [16, 12, 0, 1, 2, 3, 4, 5, 6, 7, 8, 9, 10, 11, 12, 13, 14, 15, 16]⟩])
.ret)))))))))))))
theorem r_Tlaw13_FloatSteps : fnOf Tryd.prog n_Tlaw13_FloatSteps = some (c_Tlaw13_FloatSteps, [.t 6], 126, false) := by kernel_rfl

/-- tallymark/rat.Frac -/
abbrev n_rat_Frac : FuncId := 65
def c_rat_Frac : C := (.seq (.reg false [⟨(some 2), .box 54 (.t 0), none, []⟩,
  ⟨(some 3), .box 54 (.t 1), none, []⟩,
  ⟨(some 4), .new 56 [.nilsl, (.bool false), .nilsl], none, []⟩,
  ⟨(some 5), .mv (.d (.int .i64 0)), none, []⟩])
(.seq (.seq (.reg false [⟨(some 6), .load true 2 (.t 3), none, []⟩,
  ⟨(some 7), .call 80 [(.t 6)], none, [0]⟩,
  ⟨(some 8), .call 29 [(.t 7)], none, [1, 1]⟩])
(.cond (.t 8)
 (.seq (.reg false [⟨(some 9), .build [.nilsl, (.bool false), .nilsl] [], none, []⟩,
   ⟨none, .store 3 (.t 4) (.t 9), none, [0, 0]⟩,
   ⟨(some 5), .mv (.d (.int .i64 7)), none, [1, 0, 1]⟩])
 .ret)
 .skip))
(.seq (.reg true [⟨(some 10), .load true 2 (.t 2), none, []⟩,
  ⟨(some 11), .call 83 [(.t 10)], none, [0]⟩,
  ⟨(some 12), .load true 2 (.t 3), none, []⟩,
  ⟨(some 13), .call 83 [(.t 12)], none, [2, 1]⟩,
  ⟨(some 14), .beq true (.t 11) (.t 13), none, [1, 3]⟩,
  ⟨(some 15), .load true 2 (.t 2), none, []⟩,
  ⟨(some 16), .call 80 [(.t 15)], none, [5, 3]⟩,
  ⟨(some 17), .call 82 [(.t 14), (.t 16)], none, [4, 6, 6]⟩,
  ⟨(some 18), .load true 2 (.t 3), none, []⟩,
  ⟨(some 19), .call 80 [(.t 18)], none, [8, 7]⟩,
  ⟨(some 20), .call 56 [(.t 17), (.t 19)], none, [7, 9, 9]⟩,
  ⟨none, .store 3 (.t 4) (.t 20), none, [10, 10, 0, 1, 2, 3, 4, 5, 6, 7, 8, 9, 10]⟩,
  ⟨(some 5), .mv (.d (.int .i64 0)), none, [11, 0, 1, 2, 3, 4, 5, 6, 7, 8, 9, 10, 11]⟩])
.ret)))
theorem r_rat_Frac : fnOf Tryd.prog n_rat_Frac = some (c_rat_Frac, [.cell 4 true 3, .t 5], 21, false) := by kernel_rfl

/-- tallymark/rat.Make -/
abbrev n_rat_Make : FuncId := 37
def c_rat_Make : C := (.seq (.reg false [⟨(some 4), .new 56 [.nilsl, (.bool false), .nilsl], none, []⟩,
  ⟨(some 5), .mv (.d (.int .i64 0)), none, []⟩])
(.seq (.reg false [⟨(some 6), .mv (.t 0), none, []⟩,
  ⟨(some 7), .call 57 [(.t 6)], none, [0]⟩,
  ⟨(some 8), .mv (.t 1), none, []⟩,
  ⟨(some 9), .call 57 [(.t 8)], none, [2, 1]⟩,
  ⟨(some 10), .call 65 [(.t 7), (.t 9)], none, [1, 3, 3]⟩,
  ⟨(some 11), .ext (.t 10) 0, none, [4]⟩,
  ⟨(some 12), .ext (.t 10) 1, none, [4]⟩,
  ⟨none, .store 3 (.t 4) (.t 11), none, [5, 4, 0, 1, 2, 3, 4, 5, 6]⟩,
  ⟨(some 5), .mv (.t 12), none, [6, 7, 0, 1, 2, 3, 4, 5, 6, 7]⟩])
.ret))
theorem r_rat_Make : fnOf Tryd.prog n_rat_Make = some (c_rat_Make, [.cell 4 true 3, .t 5], 13, false) := by kernel_rfl

/-- tallymark/nat.Mul -/
abbrev n_nat_Mul : FuncId := 66
def c_nat_Mul : C := (.seq (.reg false [⟨(some 2), .box 25 (.t 0), none, []⟩,
  ⟨(some 3), .box 25 (.t 1), none, []⟩,
  ⟨(some 4), .new 25 [.nilsl], none, []⟩])
(.seq (.reg false [⟨(some 14), .fa 0 (.t 2), none, []⟩,
  ⟨(some 15), .load false 1 (.t 14), none, [0]⟩,
  ⟨(some 16), .len (.t 15), none, [1]⟩,
  ⟨(some 17), .fa 0 (.t 3), none, []⟩,
  ⟨(some 18), .load false 1 (.t 17), none, [3]⟩,
  ⟨(some 19), .len (.t 18), none, [4]⟩,
  ⟨(some 20), .bin .add (.t 16) (.t 19), none, [2, 5]⟩,
  ⟨(some 21), .mksl 34 1 8 [(.int .u64 0)] (.t 20) (.t 20), none, [6, 6]⟩,
  ⟨(some 5), .mv (.t 21), none, [7, 0, 1, 2, 3, 4, 5, 6, 7]⟩])
(.seq (.seq (.reg false [⟨(some 22), .fa 0 (.t 2), none, []⟩,
  ⟨(some 23), .load false 1 (.t 22), none, [0]⟩,
  ⟨(some 24), .len (.t 23), none, [1]⟩,
  ⟨(some 25), .mv (.d (.int .i64 0)), none, []⟩])
(.block 0 (.loop (.seq (.reg false [⟨(some 26), .bin .lss (.t 25) (.t 24), none, []⟩])
(.seq (.cond (.t 26)
 .skip
 (.exit 0))
(.seq (.block 1 (.seq (.reg false [⟨(some 27), .mv (.t 25), none, []⟩,
  ⟨(some 28), .ix 1 (.t 23) (.t 25), none, []⟩,
  ⟨(some 29), .load false 1 (.t 28), none, [1]⟩,
  ⟨(some 6), .mv (.t 27), none, [0, 0, 1, 2]⟩,
  ⟨(some 7), .mv (.t 29), none, [2, 3, 0, 1, 2, 3]⟩])
(.seq (.reg false [⟨(some 8), .mv (.d (.int .u64 0)), none, []⟩])
(.seq (.seq (.reg false [⟨(some 30), .fa 0 (.t 3), none, []⟩,
  ⟨(some 31), .load false 1 (.t 30), none, [0]⟩,
  ⟨(some 32), .len (.t 31), none, [1]⟩,
  ⟨(some 33), .mv (.d (.int .i64 0)), none, []⟩])
(.block 2 (.loop (.seq (.reg false [⟨(some 34), .bin .lss (.t 33) (.t 32), none, []⟩])
(.seq (.cond (.t 34)
 .skip
 (.exit 2))
(.seq (.block 3 (.seq (.reg false [⟨(some 35), .mv (.t 33), none, []⟩,
  ⟨(some 36), .ix 1 (.t 31) (.t 33), none, []⟩,
  ⟨(some 37), .load false 1 (.t 36), none, [1]⟩,
  ⟨(some 9), .mv (.t 35), none, [0, 0, 1, 2]⟩,
  ⟨(some 10), .mv (.t 37), none, [2, 3, 0, 1, 2, 3]⟩])
(.seq (.reg false [⟨(some 39), .mv (.t 7), none, []⟩,
  ⟨(some 40), .mv (.t 10), none, []⟩,
  ⟨(some 41), .call 85 [(.t 39), (.t 40)], none, [0, 1]⟩,
  ⟨(some 38), .mv (.t 41), none, [2]⟩,
  ⟨(some 42), .ext (.t 38) 0, none, [3]⟩,
  ⟨(some 43), .ext (.t 38) 1, none, [3]⟩,
  ⟨(some 11), .mv (.t 42), none, [4, 2, 0, 1, 2, 3, 4]⟩,
  ⟨(some 12), .mv (.t 43), none, [5, 6, 0, 1, 2, 3, 4, 5, 6]⟩])
(.seq (.reg false [⟨(some 13), .mv (.d (.int .u64 0)), none, []⟩])
(.seq (.reg false [⟨(some 45), .mv (.t 12), none, []⟩,
  ⟨(some 46), .mv (.t 5), none, []⟩,
  ⟨(some 47), .mv (.t 6), none, []⟩,
  ⟨(some 48), .mv (.t 9), none, []⟩,
  ⟨(some 49), .bin .add (.t 47) (.t 48), none, [2, 3]⟩,
  ⟨(some 50), .ix 1 (.t 46) (.t 49), none, [1, 4]⟩,
  ⟨(some 51), .load false 1 (.t 50), none, [5]⟩,
  ⟨(some 52), .call 47 [(.t 45), (.t 51), (.d (.int .u64 0))], none, [0, 6]⟩,
  ⟨(some 44), .mv (.t 52), none, [7]⟩,
  ⟨(some 53), .ext (.t 44) 0, none, [8]⟩,
  ⟨(some 54), .ext (.t 44) 1, none, [8]⟩,
  ⟨(some 12), .mv (.t 53), none, [9, 7, 0, 1, 2, 3, 4, 5, 6, 7, 8, 9]⟩,
  ⟨(some 13), .mv (.t 54), none, [10, 11, 0, 1, 2, 3, 4, 5, 6, 7, 8, 9, 10, 11]⟩])
(.seq (.reg false [⟨(some 55), .mv (.t 11), none, []⟩,
  ⟨(some 56), .mv (.t 13), none, []⟩,
  ⟨(some 57), .bin .add (.t 55) (.t 56), none, [0, 1]⟩,
  ⟨(some 11), .mv (.t 57), none, [2, 0, 1, 2]⟩])
(.seq (.reg false [⟨(some 59), .mv (.t 12), none, []⟩,
  ⟨(some 60), .mv (.t 8), none, []⟩,
  ⟨(some 61), .call 47 [(.t 59), (.t 60), (.d (.int .u64 0))], none, [0, 1]⟩,
  ⟨(some 58), .mv (.t 61), none, [2]⟩,
  ⟨(some 62), .ext (.t 58) 0, none, [3]⟩,
  ⟨(some 63), .ext (.t 58) 1, none, [3]⟩,
  ⟨(some 12), .mv (.t 62), none, [4, 2, 0, 1, 2, 3, 4]⟩,
  ⟨(some 13), .mv (.t 63), none, [5, 6, 0, 1, 2, 3, 4, 5, 6]⟩])
(.reg false [⟨(some 64), .mv (.t 5), none, []⟩,
  ⟨(some 65), .mv (.t 6), none, []⟩,
  ⟨(some 66), .mv (.t 9), none, []⟩,
  ⟨(some 67), .bin .add (.t 65) (.t 66), none, [1, 2]⟩,
  ⟨(some 68), .mv (.t 12), none, []⟩,
  ⟨(some 69), .mv (.t 11), none, []⟩,
  ⟨(some 70), .mv (.t 13), none, []⟩,
  ⟨(some 71), .bin .add (.t 69) (.t 70), none, [5, 6]⟩,
  ⟨(some 72), .ix 1 (.t 64) (.t 67), none, [0, 3, 0, 1, 2, 3, 4]⟩,
  ⟨none, .store 1 (.t 72) (.t 68), none, [8, 4, 0, 1, 2, 3, 4]⟩,
  ⟨(some 8), .mv (.t 71), none, [7, 9, 0, 1, 2, 3, 4, 5, 6, 7, 8, 9]⟩]))))))))
(.reg false [⟨(some 73), .bin .add (.t 33) (.d (.int .i64 1)), none, []⟩,
  ⟨(some 33), .mv (.t 73), none, [0]⟩])))))))
(.reg false [⟨(some 74), .mv (.t 5), none, []⟩,
  ⟨(some 75), .mv (.t 6), none, []⟩,
  ⟨(some 76), .fa 0 (.t 3), none, []⟩,
  ⟨(some 77), .load false 1 (.t 76), none, [2]⟩,
  ⟨(some 78), .len (.t 77), none, [3]⟩,
  ⟨(some 79), .bin .add (.t 75) (.t 78), none, [1, 4]⟩,
  ⟨(some 80), .mv (.t 8), none, []⟩,
  ⟨(some 81), .ix 1 (.t 74) (.t 79), none, [0, 5, 0, 1, 2, 3, 4, 5, 6]⟩,
  ⟨none, .store 1 (.t 81) (.t 80), none, [7, 6, 0, 1, 2, 3, 4, 5, 6]⟩])))))
(.reg false [⟨(some 82), .bin .add (.t 25) (.d (.int .i64 1)), none, []⟩,
  ⟨(some 25), .mv (.t 82), none, [0]⟩])))))))
(.seq (.reg false [⟨(some 83), .mv (.t 5), none, []⟩,
  ⟨(some 84), .call 42 [(.t 83)], none, [0]⟩,
  ⟨none, .store 1 (.t 4) (.t 84), none, [1, 1, 0, 1]⟩])
.ret))))
theorem r_nat_Mul : fnOf Tryd.prog n_nat_Mul = some (c_nat_Mul, [.cell 4 true 1], 85, false) := by kernel_rfl

/-- tallymark/whole.Mul -/
abbrev n_whole_Mul : FuncId := 60
def c_whole_Mul : C := (.seq (.reg false [⟨(some 2), .box 54 (.t 0), none, []⟩,
  ⟨(some 3), .box 54 (.t 1), none, []⟩,
  ⟨(some 4), .new 54 [.nilsl, (.bool false)], none, []⟩])
(.seq (.reg true [⟨(some 5), .fa 1 (.t 2), none, []⟩,
  ⟨(some 6), .load false 1 (.t 5), none, [0]⟩,
  ⟨(some 7), .fa 1 (.t 3), none, []⟩,
  ⟨(some 8), .load false 1 (.t 7), none, [2]⟩,
  ⟨(some 9), .beq true (.t 6) (.t 8), none, [1, 3]⟩,
  ⟨(some 10), .fa 0 (.t 2), none, []⟩,
  ⟨(some 11), .load true 1 (.t 10), none, [5]⟩,
  ⟨(some 12), .fa 0 (.t 3), none, []⟩,
  ⟨(some 13), .load true 1 (.t 12), none, [7]⟩,
  ⟨(some 14), .call 66 [(.t 11), (.t 13)], none, [6, 8]⟩,
  ⟨(some 15), .call 82 [(.t 9), (.t 14)], none, [4, 9, 9]⟩,
  ⟨none, .store 2 (.t 4) (.t 15), none, [10, 10, 0, 1, 2, 3, 4, 5, 6, 7, 8, 9, 10]⟩])
.ret))
theorem r_whole_Mul : fnOf Tryd.prog n_whole_Mul = some (c_whole_Mul, [.cell 4 true 2], 16, false) := by kernel_rfl

/-- tallymark/rat.Mul -/
abbrev n_rat_Mul : FuncId := 38
def c_rat_Mul : C := (.seq (.reg false [⟨(some 2), .box 56 (.t 0), none, []⟩,
  ⟨(some 3), .box 56 (.t 1), none, []⟩,
  ⟨(some 4), .new 56 [.nilsl, (.bool false), .nilsl], none, []⟩])
(.seq (.reg true [⟨(some 5), .fa 0 (.t 2), none, []⟩,
  ⟨(some 6), .load true 2 (.t 5), none, [0]⟩,
  ⟨(some 7), .fa 0 (.t 3), none, []⟩,
  ⟨(some 8), .load true 2 (.t 7), none, [2]⟩,
  ⟨(some 9), .call 60 [(.t 6), (.t 8)], none, [1, 3]⟩,
  ⟨(some 10), .load true 3 (.t 2), none, []⟩,
  ⟨(some 11), .call 55 [(.t 10)], none, [5, 4]⟩,
  ⟨(some 12), .load true 3 (.t 3), none, []⟩,
  ⟨(some 13), .call 55 [(.t 12)], none, [7, 6]⟩,
  ⟨(some 14), .call 66 [(.t 11), (.t 13)], none, [6, 8, 8]⟩,
  ⟨(some 15), .call 56 [(.t 9), (.t 14)], none, [4, 9, 9]⟩,
  ⟨none, .store 3 (.t 4) (.t 15), none, [10, 10, 0, 1, 2, 3, 4, 5, 6, 7, 8, 9, 10]⟩])
.ret))
theorem r_rat_Mul : fnOf Tryd.prog n_rat_Mul = some (c_rat_Mul, [.cell 4 true 3], 16, false) := by kernel_rfl

/-- (tallymark/rat.Rat).den -/
abbrev n_rat_Rat_den : FuncId := 61
def c_rat_Rat_den : C := (.seq (.reg false [⟨(some 1), .box 56 (.t 0), none, []⟩,
  ⟨(some 2), .new 54 [.nilsl, (.bool false)], none, []⟩])
(.seq (.reg false [⟨(some 3), .load true 3 (.t 1), none, []⟩,
  ⟨(some 4), .call 55 [(.t 3)], none, [0]⟩,
  ⟨(some 5), .call 82 [(.d (.bool false)), (.t 4)], none, [1, 1]⟩,
  ⟨none, .store 2 (.t 2) (.t 5), none, [2, 2, 0, 1, 2]⟩])
.ret))
theorem r_rat_Rat_den : fnOf Tryd.prog n_rat_Rat_den = some (c_rat_Rat_den, [.cell 2 true 2], 6, false) := by kernel_rfl

/-- tallymark/whole.Cmp -/
abbrev n_whole_Cmp : FuncId := 59
def c_whole_Cmp : C := (.seq (.reg false [⟨(some 2), .box 54 (.t 0), none, []⟩,
  ⟨(some 3), .box 54 (.t 1), none, []⟩,
  ⟨(some 4), .mv (.d (.int .i64 0)), none, []⟩])
(.seq (.block 0 (.seq (.reg false [⟨(some 6), .fa 1 (.t 2), none, []⟩,
  ⟨(some 7), .load false 1 (.t 6), none, [0]⟩,
  ⟨(some 8), .mv (.t 7), none, [1]⟩,
  ⟨(some 9), .fa 1 (.t 3), some (8, true), [2]⟩,
  ⟨(some 10), .load false 1 (.t 9), some (8, true), [3, 2]⟩,
  ⟨(some 11), .pick (.t 8) (.t 10) (.d (.bool false)), none, [2, 4]⟩,
  ⟨(some 5), .mv (.t 11), none, [5, 2]⟩])
(.cond (.t 5)
 (.seq (.reg false [⟨(some 12), .fa 0 (.t 3), none, []⟩,
   ⟨(some 13), .load true 1 (.t 12), none, [0]⟩,
   ⟨(some 14), .fa 0 (.t 2), none, []⟩,
   ⟨(some 15), .load true 1 (.t 14), none, [2]⟩,
   ⟨(some 16), .call 11 [(.t 13), (.t 15)], none, [1, 3]⟩,
   ⟨(some 4), .mv (.t 16), none, [4, 4, 0, 1, 2, 3, 4]⟩])
 .ret)
 (.seq (.reg false [⟨(some 18), .fa 1 (.t 2), none, []⟩,
   ⟨(some 19), .load false 1 (.t 18), none, [0]⟩,
   ⟨(some 17), .mv (.t 19), none, [1]⟩])
 (.cond (.t 17)
  (.seq (.reg false [⟨(some 4), .mv (.d (.int .i64 (-1))), none, []⟩])
  .ret)
  (.seq (.reg false [⟨(some 21), .fa 1 (.t 3), none, []⟩,
    ⟨(some 22), .load false 1 (.t 21), none, [0]⟩,
    ⟨(some 20), .mv (.t 22), none, [1]⟩])
  (.cond (.t 20)
   (.seq (.reg false [⟨(some 4), .mv (.d (.int .i64 1)), none, []⟩])
   .ret)
   .skip)))))))
(.seq (.reg false [⟨(some 23), .fa 0 (.t 2), none, []⟩,
  ⟨(some 24), .load true 1 (.t 23), none, [0]⟩,
  ⟨(some 25), .fa 0 (.t 3), none, []⟩,
  ⟨(some 26), .load true 1 (.t 25), none, [2]⟩,
  ⟨(some 27), .call 11 [(.t 24), (.t 26)], none, [1, 3]⟩,
  ⟨(some 4), .mv (.t 27), none, [4, 4, 0, 1, 2, 3, 4]⟩])
.ret)))
theorem r_whole_Cmp : fnOf Tryd.prog n_whole_Cmp = some (c_whole_Cmp, [.t 4], 28, false) := by kernel_rfl

/-- tallymark/rat.Cmp -/
abbrev n_rat_Cmp : FuncId := 32
def c_rat_Cmp : C := (.seq (.reg false [⟨(some 2), .box 56 (.t 0), none, []⟩,
  ⟨(some 3), .box 56 (.t 1), none, []⟩,
  ⟨(some 4), .mv (.d (.int .i64 0)), none, []⟩])
(.seq (.reg true [⟨(some 5), .fa 0 (.t 2), none, []⟩,
  ⟨(some 6), .load true 2 (.t 5), none, [0]⟩,
  ⟨(some 7), .load true 3 (.t 3), none, []⟩,
  ⟨(some 8), .call 61 [(.t 7)], none, [2]⟩,
  ⟨(some 9), .call 60 [(.t 6), (.t 8)], none, [1, 3, 3]⟩,
  ⟨(some 10), .fa 0 (.t 3), none, []⟩,
  ⟨(some 11), .load true 2 (.t 10), none, [5]⟩,
  ⟨(some 12), .load true 3 (.t 2), none, []⟩,
  ⟨(some 13), .call 61 [(.t 12)], none, [7, 4]⟩,
  ⟨(some 14), .call 60 [(.t 11), (.t 13)], none, [6, 8, 8]⟩,
  ⟨(some 15), .call 59 [(.t 9), (.t 14)], none, [4, 9, 9]⟩,
  ⟨(some 4), .mv (.t 15), none, [10, 10, 0, 1, 2, 3, 4, 5, 6, 7, 8, 9, 10]⟩])
.ret))
theorem r_rat_Cmp : fnOf Tryd.prog n_rat_Cmp = some (c_rat_Cmp, [.t 4], 16, false) := by kernel_rfl

/-- tallymark/tallymarklaw13.FloatRises -/
abbrev n_Tlaw13_FloatRises : FuncId := 8
def c_Tlaw13_FloatRises : C := (.seq (.reg false [⟨(some 4), .mv (.d (.bool false)), none, []⟩])
(.seq (.seq (.reg false [⟨(some 18), .call 23 [], none, []⟩,
  ⟨(some 19), .un .not (.t 18), none, [0]⟩])
(.cond (.t 19)
 (.seq (.reg false [⟨(some 4), .mv (.d (.bool false)), none, []⟩])
 .ret)
 .skip))
(.seq (.reg false [⟨(some 20), .mv (.t 0), none, []⟩,
  ⟨(some 21), .bin .and (.t 20) (.d (.int .i64 15)), none, [0]⟩,
  ⟨(some 22), .bin .rem (.t 21) (.d (.int .i64 9)), none, [1]⟩,
  ⟨(some 23), .mv (.t 1), none, []⟩,
  ⟨(some 24), .bin .and (.t 23) (.d (.int .i64 511)), none, [3]⟩,
  ⟨(some 0), .mv (.t 22), none, [2, 0, 1, 2]⟩,
  ⟨(some 1), .mv (.t 24), none, [4, 5, 0, 1, 2, 3, 4, 5]⟩])
(.seq (.reg false [⟨(some 25), .mv (.t 0), none, []⟩,
  ⟨(some 26), .bin .shl (.d (.int .i64 1)) (.t 25), none, [0]⟩,
  ⟨(some 5), .mv (.t 26), none, [1, 0, 1]⟩])
(.seq (.reg false [⟨(some 28), .mv (.t 0), none, []⟩,
  ⟨(some 29), .mv (.t 1), none, []⟩,
  ⟨(some 30), .call 24 [(.t 28), (.t 29)], none, [0, 1]⟩,
  ⟨(some 27), .mv (.t 30), none, [2]⟩,
  ⟨(some 31), .ext (.t 27) 0, none, [3]⟩,
  ⟨(some 32), .ext (.t 27) 1, none, [3]⟩,
  ⟨(some 6), .new 56 [.nilsl, (.bool false), .nilsl], none, []⟩,
  ⟨none, .store 3 (.t 6) (.t 31), none, [6, 4, 2, 0, 1, 2, 3, 4, 6]⟩,
  ⟨(some 7), .mv (.t 32), none, [5, 7, 0, 1, 2, 3, 4, 5, 6, 7]⟩])
(.seq (.reg false [⟨(some 34), .mv (.t 0), none, []⟩,
  ⟨(some 35), .mv (.t 1), none, []⟩,
  ⟨(some 36), .mv (.t 5), none, []⟩,
  ⟨(some 37), .bin .add (.t 35) (.t 36), none, [1, 2]⟩,
  ⟨(some 38), .call 24 [(.t 34), (.t 37)], none, [0, 3]⟩,
  ⟨(some 33), .mv (.t 38), none, [4]⟩,
  ⟨(some 39), .ext (.t 33) 0, none, [5]⟩,
  ⟨(some 40), .ext (.t 33) 1, none, [5]⟩,
  ⟨(some 8), .new 56 [.nilsl, (.bool false), .nilsl], none, []⟩,
  ⟨none, .store 3 (.t 8) (.t 39), none, [8, 6, 4, 0, 1, 2, 3, 4, 5, 6, 8]⟩,
  ⟨(some 9), .mv (.t 40), none, [7, 9, 0, 1, 2, 3, 4, 5, 6, 7, 8, 9]⟩])
(.seq (.reg false [⟨(some 42), .mv (.t 0), none, []⟩,
  ⟨(some 43), .mv (.t 1), none, []⟩,
  ⟨(some 44), .call 25 [(.t 42), (.t 43)], none, [0, 1]⟩,
  ⟨(some 41), .mv (.t 44), none, [2]⟩,
  ⟨(some 45), .ext (.t 41) 0, none, [3]⟩,
  ⟨(some 46), .ext (.t 41) 1, none, [3]⟩,
  ⟨(some 10), .new 25 [.nilsl], none, []⟩,
  ⟨none, .store 1 (.t 10) (.t 45), none, [6, 4, 2, 0, 1, 2, 3, 4, 6]⟩,
  ⟨(some 11), .mv (.t 46), none, [5, 7, 0, 1, 2, 3, 4, 5, 6, 7]⟩])
(.seq (.reg false [⟨(some 48), .mv (.t 0), none, []⟩,
  ⟨(some 49), .mv (.t 1), none, []⟩,
  ⟨(some 50), .bin .add (.t 49) (.d (.int .i64 1)), none, [1]⟩,
  ⟨(some 51), .call 25 [(.t 48), (.t 50)], none, [0, 2]⟩,
  ⟨(some 47), .mv (.t 51), none, [3]⟩,
  ⟨(some 52), .ext (.t 47) 0, none, [4]⟩,
  ⟨(some 53), .ext (.t 47) 1, none, [4]⟩,
  ⟨(some 12), .new 25 [.nilsl], none, []⟩,
  ⟨none, .store 1 (.t 12) (.t 52), none, [7, 5, 3, 0, 1, 2, 3, 4, 5, 7]⟩,
  ⟨(some 13), .mv (.t 53), none, [6, 8, 0, 1, 2, 3, 4, 5, 6, 7, 8]⟩])
(.seq (.reg false [⟨(some 55), .mv (.t 0), none, []⟩,
  ⟨(some 56), .mv (.t 1), none, []⟩,
  ⟨(some 57), .mv (.t 5), none, []⟩,
  ⟨(some 58), .bin .add (.t 56) (.t 57), none, [1, 2]⟩,
  ⟨(some 59), .call 25 [(.t 55), (.t 58)], none, [0, 3]⟩,
  ⟨(some 54), .mv (.t 59), none, [4]⟩,
  ⟨(some 60), .ext (.t 54) 0, none, [5]⟩,
  ⟨(some 61), .ext (.t 54) 1, none, [5]⟩,
  ⟨(some 14), .new 25 [.nilsl], none, []⟩,
  ⟨none, .store 1 (.t 14) (.t 60), none, [8, 6, 4, 0, 1, 2, 3, 4, 5, 6, 8]⟩,
  ⟨(some 15), .mv (.t 61), none, [7, 9, 0, 1, 2, 3, 4, 5, 6, 7, 8, 9]⟩])
(.seq (.reg false [⟨(some 63), .call 37 [(.d (.int .i64 1)), (.d (.int .i64 2))], none, []⟩,
  ⟨(some 62), .mv (.t 63), none, [0]⟩,
  ⟨(some 64), .ext (.t 62) 0, none, [1]⟩,
  ⟨(some 65), .ext (.t 62) 1, none, [1]⟩,
  ⟨(some 16), .new 56 [.nilsl, (.bool false), .nilsl], none, []⟩,
  ⟨none, .store 3 (.t 16) (.t 64), none, [4, 2, 0, 0, 1, 2, 4]⟩,
  ⟨(some 17), .mv (.t 65), none, [3, 5, 0, 1, 2, 3, 4, 5]⟩])
(.seq (.reg true [⟨(some 66), .mv (.t 7), none, []⟩,
  ⟨(some 67), .bin .eql (.t 66) (.d (.int .i64 0)), none, [0]⟩,
  ⟨(some 68), .mv (.t 67), none, [1]⟩,
  ⟨(some 69), .mv (.t 9), some (68, true), [2]⟩,
  ⟨(some 70), .bin .eql (.t 69) (.d (.int .i64 0)), some (68, true), [3, 2]⟩,
  ⟨(some 71), .pick (.t 68) (.t 70) (.d (.bool false)), none, [2, 4]⟩,
  ⟨(some 72), .mv (.t 71), none, [5, 2]⟩,
  ⟨(some 73), .mv (.t 11), some (72, true), [6]⟩,
  ⟨(some 74), .bin .eql (.t 73) (.d (.int .i64 0)), some (72, true), [7, 6]⟩,
  ⟨(some 75), .pick (.t 72) (.t 74) (.d (.bool false)), none, [6, 8]⟩,
  ⟨(some 76), .mv (.t 75), none, [9, 6]⟩,
  ⟨(some 77), .mv (.t 13), some (76, true), [10]⟩,
  ⟨(some 78), .bin .eql (.t 77) (.d (.int .i64 0)), some (76, true), [11, 10]⟩,
  ⟨(some 79), .pick (.t 76) (.t 78) (.d (.bool false)), none, [10, 12]⟩,
  ⟨(some 80), .mv (.t 79), none, [13, 10]⟩,
  ⟨(some 81), .mv (.t 15), some (80, true), [14]⟩,
  ⟨(some 82), .bin .eql (.t 81) (.d (.int .i64 0)), some (80, true), [15, 14]⟩,
  ⟨(some 83), .pick (.t 80) (.t 82) (.d (.bool false)), none, [14, 16]⟩,
  ⟨(some 84), .mv (.t 83), none, [17, 14]⟩,
  ⟨(some 85), .load true 3 (.t 6), some (84, true), [18]⟩,
  ⟨(some 86), .load true 3 (.t 16), some (84, true), [18]⟩,
  ⟨(some 87), .call 38 [(.t 85), (.t 86)], some (84, true), [19, 20, 18, 18]⟩,
  ⟨(some 88), .load true 3 (.t 8), some (84, true), [18]⟩,
  ⟨(some 89), .call 32 [(.t 87), (.t 88)], some (84, true), [21, 22, 21, 18]⟩,
  ⟨(some 90), .bin .eql (.t 89) (.d (.int .i64 0)), some (84, true), [23, 18]⟩,
  ⟨(some 91), .pick (.t 84) (.t 90) (.d (.bool false)), none, [18, 24]⟩,
  ⟨(some 92), .mv (.t 91), none, [25, 23]⟩,
  ⟨(some 93), .load true 1 (.t 10), some (92, true), [26]⟩,
  ⟨(some 94), .load true 1 (.t 12), some (92, true), [26]⟩,
  ⟨(some 95), .call 11 [(.t 93), (.t 94)], some (92, true), [27, 28, 26, 26]⟩,
  ⟨(some 96), .bin .lss (.t 95) (.d (.int .i64 0)), some (92, true), [29, 26]⟩,
  ⟨(some 97), .pick (.t 92) (.t 96) (.d (.bool false)), none, [26, 30]⟩,
  ⟨(some 98), .mv (.t 97), none, [31, 29]⟩,
  ⟨(some 99), .load true 1 (.t 14), some (98, true), [32]⟩,
  ⟨(some 100), .load true 1 (.t 10), some (98, true), [32]⟩,
  ⟨(some 101), .load true 1 (.t 10), some (98, true), [32]⟩,
  ⟨(some 102), .call 15 [(.t 100), (.t 101)], some (98, true), [34, 35, 32, 32]⟩,
  ⟨(some 103), .mv (.t 5), some (98, true), [32]⟩,
  ⟨(some 104), .conv .u64 (.t 103), some (98, true), [37, 32]⟩,
  ⟨(some 105), .bsl 34 1 1 [(.int .u64 0)] [(0, 1, (.t 104))], some (98, true), [38, 32]⟩,
  ⟨(some 106), .call 13 [(.t 105)], some (98, true), [39, 36, 32]⟩,
  ⟨(some 107), .call 15 [(.t 102), (.t 106)], some (98, true), [36, 40, 40, 32]⟩,
  ⟨(some 108), .call 11 [(.t 99), (.t 107)], some (98, true), [33, 41, 41, 32]⟩,
  ⟨(some 109), .bin .eql (.t 108) (.d (.int .i64 0)), some (98, true), [42, 32]⟩,
  ⟨(some 110), .pick (.t 98) (.t 109) (.d (.bool false)), none, [32, 43]⟩,
  ⟨(some 4), .mv (.t 110), none, [44, 42, 0, 1, 2, 3, 4, 5, 6, 7, 8, 9, 10, 11, 12, 13, 14, 15, 16, 17, 18, 19, 20, 21, 22, 23, 24, 25, 26, 27, 28, 29, 30, 31, 32, 33, 34, 35, 36, 37, 38, 39, 40, 41, 42, 43, 44]⟩])
.ret)))))))))))
theorem r_Tlaw13_FloatRises : fnOf Tryd.prog n_Tlaw13_FloatRises = some (c_Tlaw13_FloatRises, [.t 4], 111, false) := by kernel_rfl

/-- tallymark/tallymarkref05.Small -/
abbrev n_Tref05_Small : FuncId := 63
def c_Tref05_Small : C := (.seq (.reg false [⟨(some 2), .mv (.d .nilsl), none, []⟩])
(.seq (.reg false [⟨(some 3), .mv (.d .nilsl), none, []⟩])
(.seq (.block 0 (.loop (.seq (.seq (.reg false [⟨(some 4), .mv (.t 0), none, []⟩,
  ⟨(some 5), .bin .gtr (.t 4) (.d (.int .i64 0)), none, [0]⟩])
(.cond (.t 5)
 .skip
 (.exit 0)))
(.block 1 (.seq (.reg false [⟨(some 6), .mv (.t 3), none, []⟩,
  ⟨(some 7), .mv (.t 0), none, []⟩,
  ⟨(some 8), .bin .rem (.t 7) (.d (.int .i64 10000)), none, [1]⟩,
  ⟨(some 9), .bsl 3 1 1 [(.int .i64 0)] [(0, 1, (.t 8))], none, [2]⟩,
  ⟨(some 10), .app 3 1 8 (.t 6) (.t 9), none, [0, 3]⟩,
  ⟨(some 3), .mv (.t 10), none, [4, 4, 0, 1, 2, 3, 4]⟩])
(.reg false [⟨(some 11), .mv (.t 0), none, []⟩,
  ⟨(some 12), .bin .quo (.t 11) (.d (.int .i64 10000)), none, [0]⟩,
  ⟨(some 0), .mv (.t 12), none, [1, 0, 1]⟩]))))))
(.seq (.reg false [⟨(some 13), .mv (.t 3), none, []⟩,
  ⟨(some 2), .mv (.t 13), none, [0, 0]⟩])
.ret))))
theorem r_Tref05_Small : fnOf Tryd.prog n_Tref05_Small = some (c_Tref05_Small, [.t 2], 14, false) := by kernel_rfl

/-- tallymark/tallymarkref05.trim -/
abbrev n_Tref05_trim : FuncId := 84
def c_Tref05_trim : C := (.seq (.reg false [⟨(some 2), .mv (.d .nilsl), none, []⟩])
(.seq (.reg false [⟨(some 4), .mv (.t 0), none, []⟩,
  ⟨(some 5), .len (.t 4), none, [0]⟩,
  ⟨(some 3), .mv (.t 5), none, [1, 0, 1]⟩])
(.seq (.block 0 (.loop (.seq (.seq (.reg false [⟨(some 6), .mv (.t 3), none, []⟩,
  ⟨(some 7), .bin .gtr (.t 6) (.d (.int .i64 0)), none, [0]⟩,
  ⟨(some 8), .mv (.t 7), none, [1]⟩,
  ⟨(some 9), .mv (.t 0), some (8, true), [2]⟩,
  ⟨(some 10), .mv (.t 3), some (8, true), [2]⟩,
  ⟨(some 11), .bin .sub (.t 10) (.d (.int .i64 1)), some (8, true), [4, 2]⟩,
  ⟨(some 12), .ix 1 (.t 9) (.t 11), some (8, true), [3, 5, 2]⟩,
  ⟨(some 13), .load false 1 (.t 12), some (8, true), [6, 2]⟩,
  ⟨(some 14), .bin .eql (.t 13) (.d (.int .i64 0)), some (8, true), [7, 2]⟩,
  ⟨(some 15), .pick (.t 8) (.t 14) (.d (.bool false)), none, [2, 8]⟩])
(.cond (.t 15)
 .skip
 (.exit 0)))
(.block 1 (.reg false [⟨(some 16), .mv (.t 3), none, []⟩,
  ⟨(some 17), .bin .sub (.t 16) (.d (.int .i64 1)), none, [0]⟩,
  ⟨(some 3), .mv (.t 17), none, [1, 0, 1]⟩])))))
(.seq (.reg false [⟨(some 18), .mv (.t 0), none, []⟩,
  ⟨(some 19), .mv (.t 3), none, []⟩,
  ⟨(some 20), .slice 1 (.t 18) none (some (.t 19)) none, none, [0, 1]⟩,
  ⟨(some 2), .mv (.t 20), none, [2, 0, 1, 2]⟩])
.ret))))
theorem r_Tref05_trim : fnOf Tryd.prog n_Tref05_trim = some (c_Tref05_trim, [.t 2], 21, false) := by kernel_rfl

/-- tallymark/tallymarkref05.Add -/
abbrev n_Tref05_Add : FuncId := 64
def c_Tref05_Add : C := (.seq (.reg false [⟨(some 4), .mv (.d .nilsl), none, []⟩])
(.seq (.reg false [⟨(some 5), .mv (.d .nilsl), none, []⟩])
(.seq (.reg false [⟨(some 6), .mv (.d (.int .i64 0)), none, []⟩])
(.seq (.seq (.reg false [⟨(some 7), .mv (.d (.int .i64 0)), none, []⟩])
(.block 0 (.loop (.seq (.seq (.reg false [⟨(some 8), .mv (.t 7), none, []⟩,
  ⟨(some 9), .mv (.t 0), none, []⟩,
  ⟨(some 10), .len (.t 9), none, [1]⟩,
  ⟨(some 11), .bin .lss (.t 8) (.t 10), none, [0, 2]⟩,
  ⟨(some 12), .mv (.t 11), none, [3]⟩,
  ⟨(some 13), .mv (.t 7), some (12, false), [4]⟩,
  ⟨(some 14), .mv (.t 1), some (12, false), [4]⟩,
  ⟨(some 15), .len (.t 14), some (12, false), [6, 4]⟩,
  ⟨(some 16), .bin .lss (.t 13) (.t 15), some (12, false), [5, 7, 4]⟩,
  ⟨(some 17), .pick (.t 12) (.d (.bool true)) (.t 16), none, [4, 8]⟩,
  ⟨(some 18), .mv (.t 17), none, [9, 4]⟩,
  ⟨(some 19), .mv (.t 6), some (18, false), [10]⟩,
  ⟨(some 20), .bin .gtr (.t 19) (.d (.int .i64 0)), some (18, false), [11, 10]⟩,
  ⟨(some 21), .pick (.t 18) (.d (.bool true)) (.t 20), none, [10, 12]⟩])
(.cond (.t 21)
 .skip
 (.exit 0)))
(.seq (.block 1 (.seq (.seq (.reg false [⟨(some 24), .mv (.t 7), none, []⟩,
  ⟨(some 25), .mv (.t 0), none, []⟩,
  ⟨(some 26), .len (.t 25), none, [1]⟩,
  ⟨(some 27), .bin .lss (.t 24) (.t 26), none, [0, 2]⟩])
(.cond (.t 27)
 (.reg false [⟨(some 28), .mv (.t 6), none, []⟩,
   ⟨(some 29), .mv (.t 0), none, []⟩,
   ⟨(some 30), .mv (.t 7), none, []⟩,
   ⟨(some 31), .ix 1 (.t 29) (.t 30), none, [1, 2]⟩,
   ⟨(some 32), .load false 1 (.t 31), none, [3]⟩,
   ⟨(some 33), .bin .add (.t 28) (.t 32), none, [0, 4]⟩,
   ⟨(some 6), .mv (.t 33), none, [5, 0, 1, 2, 3, 4, 5]⟩])
 .skip))
(.seq (.seq (.reg false [⟨(some 34), .mv (.t 7), none, []⟩,
  ⟨(some 35), .mv (.t 1), none, []⟩,
  ⟨(some 36), .len (.t 35), none, [1]⟩,
  ⟨(some 37), .bin .lss (.t 34) (.t 36), none, [0, 2]⟩])
(.cond (.t 37)
 (.reg false [⟨(some 38), .mv (.t 6), none, []⟩,
   ⟨(some 39), .mv (.t 1), none, []⟩,
   ⟨(some 40), .mv (.t 7), none, []⟩,
   ⟨(some 41), .ix 1 (.t 39) (.t 40), none, [1, 2]⟩,
   ⟨(some 42), .load false 1 (.t 41), none, [3]⟩,
   ⟨(some 43), .bin .add (.t 38) (.t 42), none, [0, 4]⟩,
   ⟨(some 6), .mv (.t 43), none, [5, 0, 1, 2, 3, 4, 5]⟩])
 .skip))
(.seq (.reg false [⟨(some 44), .mv (.t 5), none, []⟩,
  ⟨(some 45), .mv (.t 6), none, []⟩,
  ⟨(some 46), .bin .rem (.t 45) (.d (.int .i64 10000)), none, [1]⟩,
  ⟨(some 47), .bsl 3 1 1 [(.int .i64 0)] [(0, 1, (.t 46))], none, [2]⟩,
  ⟨(some 48), .app 3 1 8 (.t 44) (.t 47), none, [0, 3]⟩,
  ⟨(some 5), .mv (.t 48), none, [4, 4, 0, 1, 2, 3, 4]⟩])
(.reg false [⟨(some 49), .mv (.t 6), none, []⟩,
  ⟨(some 50), .bin .quo (.t 49) (.d (.int .i64 10000)), none, [0]⟩,
  ⟨(some 6), .mv (.t 50), none, [1, 0, 1]⟩])))))
(.reg false [⟨(some 22), .mv (.t 7), none, []⟩,
  ⟨(some 23), .bin .add (.t 22) (.d (.int .i64 1)), none, [0]⟩,
  ⟨(some 7), .mv (.t 23), none, [1, 0, 1]⟩]))))))
(.seq (.reg false [⟨(some 51), .mv (.t 5), none, []⟩,
  ⟨(some 52), .call 84 [(.t 51)], none, [0]⟩,
  ⟨(some 4), .mv (.t 52), none, [1, 1, 0, 1]⟩])
.ret)))))
theorem r_Tref05_Add : fnOf Tryd.prog n_Tref05_Add = some (c_Tref05_Add, [.t 4], 53, false) := by kernel_rfl

/-- tallymark/tallymarkref13.Value -/
abbrev n_Tref13_Value : FuncId := 34
def c_Tref13_Value : C := (.seq (.reg false [⟨(some 4), .mv (.d .nilsl), none, []⟩])
(.seq (.reg false [⟨(some 5), .mv (.d .nilsl), none, []⟩])
(.seq (.reg false [⟨(some 8), .call 63 [(.d (.int .i64 1))], none, []⟩,
  ⟨(some 6), .mv (.t 8), none, [0, 0, 0]⟩])
(.seq (.seq (.reg false [⟨(some 7), .mv (.d (.int .i64 0)), none, []⟩])
(.block 0 (.loop (.seq (.seq (.reg false [⟨(some 9), .mv (.t 7), none, []⟩,
  ⟨(some 10), .mv (.t 1), none, []⟩,
  ⟨(some 11), .bin .lss (.t 9) (.t 10), none, [0, 1]⟩])
(.cond (.t 11)
 .skip
 (.exit 0)))
(.seq (.block 1 (.seq (.seq (.reg false [⟨(some 14), .mv (.t 7), none, []⟩,
  ⟨(some 15), .bin .gtr (.t 14) (.d (.int .i64 0)), none, [0]⟩,
  ⟨(some 16), .mv (.t 15), none, [1]⟩,
  ⟨(some 17), .mv (.t 7), some (16, true), [2]⟩,
  ⟨(some 18), .mv (.t 0), some (16, true), [2]⟩,
  ⟨(some 19), .call 58 [(.t 18)], some (16, true), [4, 2, 2]⟩,
  ⟨(some 20), .bin .rem (.t 17) (.t 19), some (16, true), [3, 5, 2]⟩,
  ⟨(some 21), .bin .eql (.t 20) (.d (.int .i64 0)), some (16, true), [6, 2]⟩,
  ⟨(some 22), .pick (.t 16) (.t 21) (.d (.bool false)), none, [2, 7]⟩])
(.cond (.t 22)
 (.reg false [⟨(some 23), .mv (.t 6), none, []⟩,
   ⟨(some 24), .mv (.t 6), none, []⟩,
   ⟨(some 25), .call 64 [(.t 23), (.t 24)], none, [0, 1]⟩,
   ⟨(some 6), .mv (.t 25), none, [2, 2, 0, 1, 2]⟩])
 .skip))
(.reg false [⟨(some 26), .mv (.t 5), none, []⟩,
  ⟨(some 27), .mv (.t 6), none, []⟩,
  ⟨(some 28), .call 64 [(.t 26), (.t 27)], none, [0, 1]⟩,
  ⟨(some 5), .mv (.t 28), none, [2, 2, 0, 1, 2]⟩])))
(.reg false [⟨(some 12), .mv (.t 7), none, []⟩,
  ⟨(some 13), .bin .add (.t 12) (.d (.int .i64 1)), none, [0]⟩,
  ⟨(some 7), .mv (.t 13), none, [1, 0, 1]⟩]))))))
(.seq (.reg false [⟨(some 29), .mv (.t 5), none, []⟩,
  ⟨(some 4), .mv (.t 29), none, [0, 0]⟩])
.ret)))))
theorem r_Tref13_Value : fnOf Tryd.prog n_Tref13_Value = some (c_Tref13_Value, [.t 4], 30, false) := by kernel_rfl

/-- tallymark/tallymarklaw05.Is -/
abbrev n_Tlaw05_Is : FuncId := 33
def c_Tlaw05_Is : C := (.seq (.reg false [⟨(some 2), .box 25 (.t 0), none, []⟩,
  ⟨(some 4), .mv (.d (.bool false)), none, []⟩])
(.seq (.reg false [⟨(some 5), .load true 1 (.t 2), none, []⟩,
  ⟨(some 6), .call 12 [(.t 5)], none, [0]⟩,
  ⟨(some 7), .mv (.t 1), none, []⟩,
  ⟨(some 8), .call 62 [(.t 7)], none, [2, 1]⟩,
  ⟨(some 9), .bin .eql (.t 6) (.t 8), none, [1, 3]⟩,
  ⟨(some 4), .mv (.t 9), none, [4, 3, 0, 1, 2, 3, 4]⟩])
.ret))
theorem r_Tlaw05_Is : fnOf Tryd.prog n_Tlaw05_Is = some (c_Tlaw05_Is, [.t 4], 10, false) := by kernel_rfl

/-- tallymark/tallymarklaw13.FloatTells -/
abbrev n_Tlaw13_FloatTells : FuncId := 6
def c_Tlaw13_FloatTells : C := (.seq (.reg false [⟨(some 4), .mv (.d (.bool false)), none, []⟩])
(.seq (.seq (.reg false [⟨(some 16), .call 23 [], none, []⟩,
  ⟨(some 17), .un .not (.t 16), none, [0]⟩])
(.cond (.t 17)
 (.seq (.reg false [⟨(some 4), .mv (.d (.bool false)), none, []⟩])
 .ret)
 .skip))
(.seq (.reg false [⟨(some 19), .mv (.t 0), none, []⟩,
  ⟨(some 20), .mv (.t 1), none, []⟩,
  ⟨(some 21), .call 24 [(.t 19), (.t 20)], none, [0, 1]⟩,
  ⟨(some 18), .mv (.t 21), none, [2]⟩,
  ⟨(some 22), .ext (.t 18) 0, none, [3]⟩,
  ⟨(some 23), .ext (.t 18) 1, none, [3]⟩,
  ⟨(some 5), .new 56 [.nilsl, (.bool false), .nilsl], none, []⟩,
  ⟨none, .store 3 (.t 5) (.t 22), none, [6, 4, 2, 0, 1, 2, 3, 4, 6]⟩,
  ⟨(some 6), .mv (.t 23), none, [5, 7, 0, 1, 2, 3, 4, 5, 6, 7]⟩])
(.seq (.reg false [⟨(some 25), .mv (.t 0), none, []⟩,
  ⟨(some 26), .mv (.t 1), none, []⟩,
  ⟨(some 27), .call 25 [(.t 25), (.t 26)], none, [0, 1]⟩,
  ⟨(some 24), .mv (.t 27), none, [2]⟩,
  ⟨(some 28), .ext (.t 24) 0, none, [3]⟩,
  ⟨(some 29), .ext (.t 24) 1, none, [3]⟩,
  ⟨(some 7), .new 25 [.nilsl], none, []⟩,
  ⟨none, .store 1 (.t 7) (.t 28), none, [6, 4, 2, 0, 1, 2, 3, 4, 6]⟩,
  ⟨(some 8), .mv (.t 29), none, [5, 7, 0, 1, 2, 3, 4, 5, 6, 7]⟩])
(.seq (.reg false [⟨(some 30), .mv (.t 0), none, []⟩,
  ⟨(some 31), .mv (.t 1), none, []⟩,
  ⟨(some 32), .call 26 [(.t 30), (.t 31)], none, [0, 1]⟩,
  ⟨(some 9), .mv (.t 32), none, [2, 2, 0, 1, 2]⟩])
(.seq (.seq (.reg false [⟨(some 33), .mv (.t 0), none, []⟩,
  ⟨(some 34), .call 27 [(.t 33)], none, [0]⟩,
  ⟨(some 35), .mv (.t 0), none, []⟩,
  ⟨(some 36), .call 26 [(.t 35), (.d (.int .i64 0))], none, [2, 1]⟩,
  ⟨(some 37), .bin .eql (.t 36) (.d (.int .i64 0)), none, [3]⟩,
  ⟨(some 38), .beq true (.t 34) (.t 37), none, [1, 4]⟩])
(.cond (.t 38)
 (.seq (.reg false [⟨(some 4), .mv (.d (.bool false)), none, []⟩])
 .ret)
 .skip))
(.seq (.seq (.reg false [⟨(some 39), .mv (.t 9), none, []⟩,
  ⟨(some 40), .bin .neq (.t 39) (.d (.int .i64 0)), none, [0]⟩])
(.cond (.t 40)
 (.seq (.reg false [⟨(some 41), .mv (.t 6), none, []⟩,
   ⟨(some 42), .mv (.t 9), none, []⟩,
   ⟨(some 43), .bin .eql (.t 41) (.t 42), none, [0, 1]⟩,
   ⟨(some 44), .mv (.t 43), none, [2]⟩,
   ⟨(some 45), .mv (.t 8), some (44, true), [3]⟩,
   ⟨(some 46), .mv (.t 9), some (44, true), [3]⟩,
   ⟨(some 47), .bin .eql (.t 45) (.t 46), some (44, true), [4, 5, 3]⟩,
   ⟨(some 48), .pick (.t 44) (.t 47) (.d (.bool false)), none, [3, 6]⟩,
   ⟨(some 49), .mv (.t 48), none, [7, 3]⟩,
   ⟨(some 50), .load true 3 (.t 5), some (49, true), [8]⟩,
   ⟨(some 51), .call 28 [(.t 50)], some (49, true), [9, 8, 8]⟩,
   ⟨(some 52), .bin .eql (.t 51) (.d (.str ⟨#[48]⟩)), some (49, true), [10, 8]⟩,
   ⟨(some 53), .pick (.t 49) (.t 52) (.d (.bool false)), none, [8, 11]⟩,
   ⟨(some 54), .mv (.t 53), none, [12, 10]⟩,
   ⟨(some 55), .load true 1 (.t 7), some (54, true), [13]⟩,
   ⟨(some 56), .call 29 [(.t 55)], some (54, true), [14, 13, 13]⟩,
   ⟨(some 57), .pick (.t 54) (.t 56) (.d (.bool false)), none, [13, 15]⟩,
   ⟨(some 4), .mv (.t 57), none, [16, 15, 0, 1, 2, 3, 4, 5, 6, 7, 8, 9, 10, 11, 12, 13, 14, 15, 16]⟩])
 .ret)
 .skip))
(.seq (.reg false [⟨(some 59), .mv (.t 0), none, []⟩,
  ⟨(some 60), .mv (.t 1), none, []⟩,
  ⟨(some 61), .call 31 [(.t 59), (.t 60)], none, [0, 1]⟩,
  ⟨(some 62), .call 30 [(.t 61)], none, [2, 2]⟩,
  ⟨(some 58), .mv (.t 62), none, [3]⟩,
  ⟨(some 63), .ext (.t 58) 0, none, [4]⟩,
  ⟨(some 64), .ext (.t 58) 1, none, [4]⟩,
  ⟨(some 10), .new 56 [.nilsl, (.bool false), .nilsl], none, []⟩,
  ⟨none, .store 3 (.t 10) (.t 63), none, [7, 5, 3, 0, 1, 2, 3, 4, 5, 7]⟩,
  ⟨(some 11), .mv (.t 64), none, [6, 8, 0, 1, 2, 3, 4, 5, 6, 7, 8]⟩])
(.seq (.seq (.reg false [⟨(some 65), .mv (.t 6), none, []⟩,
  ⟨(some 66), .bin .neq (.t 65) (.d (.int .i64 0)), none, [0]⟩,
  ⟨(some 67), .mv (.t 66), none, [1]⟩,
  ⟨(some 68), .mv (.t 8), some (67, false), [2]⟩,
  ⟨(some 69), .bin .neq (.t 68) (.d (.int .i64 0)), some (67, false), [3, 2]⟩,
  ⟨(some 70), .pick (.t 67) (.d (.bool true)) (.t 69), none, [2, 4]⟩,
  ⟨(some 71), .mv (.t 70), none, [5, 2]⟩,
  ⟨(some 72), .mv (.t 11), some (71, false), [6]⟩,
  ⟨(some 73), .bin .neq (.t 72) (.d (.int .i64 0)), some (71, false), [7, 6]⟩,
  ⟨(some 74), .pick (.t 71) (.d (.bool true)) (.t 73), none, [6, 8]⟩,
  ⟨(some 75), .mv (.t 74), none, [9, 6]⟩,
  ⟨(some 76), .load true 3 (.t 5), some (75, false), [10]⟩,
  ⟨(some 77), .load true 3 (.t 10), some (75, false), [10]⟩,
  ⟨(some 78), .call 32 [(.t 76), (.t 77)], some (75, false), [11, 12, 10, 10]⟩,
  ⟨(some 79), .bin .neq (.t 78) (.d (.int .i64 0)), some (75, false), [13, 10]⟩,
  ⟨(some 80), .pick (.t 75) (.d (.bool true)) (.t 79), none, [10, 14]⟩])
(.cond (.t 80)
 (.seq (.reg false [⟨(some 4), .mv (.d (.bool false)), none, []⟩])
 .ret)
 .skip))
(.seq (.seq (.reg false [⟨(some 81), .mv (.t 1), none, []⟩,
  ⟨(some 82), .bin .gtr (.t 81) (.d (.int .i64 400)), none, [0]⟩])
(.cond (.t 82)
 (.seq (.reg false [⟨(some 84), .mv (.t 0), none, []⟩,
   ⟨(some 85), .mv (.t 1), none, []⟩,
   ⟨(some 86), .bin .sub (.t 85) (.d (.int .i64 1)), none, [1]⟩,
   ⟨(some 87), .call 25 [(.t 84), (.t 86)], none, [0, 2]⟩,
   ⟨(some 83), .mv (.t 87), none, [3]⟩,
   ⟨(some 88), .ext (.t 83) 0, none, [4]⟩,
   ⟨(some 89), .ext (.t 83) 1, none, [4]⟩,
   ⟨(some 12), .new 25 [.nilsl], none, []⟩,
   ⟨none, .store 1 (.t 12) (.t 88), none, [7, 5, 3, 0, 1, 2, 3, 4, 5, 7]⟩,
   ⟨(some 13), .mv (.t 89), none, [6, 8, 0, 1, 2, 3, 4, 5, 6, 7, 8]⟩])
 (.seq (.reg false [⟨(some 91), .bsl 34 1 1 [(.int .u64 0)] [(0, 1, (.d (.int .u64 1)))], none, []⟩,
   ⟨(some 92), .call 13 [(.t 91)], none, [0]⟩,
   ⟨(some 93), .mv (.t 0), none, []⟩,
   ⟨(some 94), .mv (.t 1), none, []⟩,
   ⟨(some 95), .bin .sub (.t 94) (.d (.int .i64 1)), none, [3]⟩,
   ⟨(some 96), .call 31 [(.t 93), (.t 95)], none, [2, 4, 1]⟩,
   ⟨(some 97), .call 14 [(.t 92), (.t 96)], none, [1, 5, 5]⟩,
   ⟨(some 90), .mv (.t 97), none, [6]⟩,
   ⟨(some 98), .ext (.t 90) 0, none, [7]⟩,
   ⟨(some 99), .ext (.t 90) 1, none, [7]⟩,
   ⟨(some 14), .new 25 [.nilsl], none, []⟩,
   ⟨none, .store 1 (.t 14) (.t 98), none, [10, 8, 6, 0, 1, 2, 3, 4, 5, 6, 7, 8, 10]⟩,
   ⟨(some 15), .mv (.t 99), none, [9, 11, 0, 1, 2, 3, 4, 5, 6, 7, 8, 9, 10, 11]⟩])
 (.seq (.reg true [⟨(some 100), .mv (.t 13), none, []⟩,
   ⟨(some 101), .bin .eql (.t 100) (.d (.int .i64 0)), none, [0]⟩,
   ⟨(some 102), .mv (.t 101), none, [1]⟩,
   ⟨(some 103), .mv (.t 15), some (102, true), [2]⟩,
   ⟨(some 104), .bin .eql (.t 103) (.d (.int .i64 0)), some (102, true), [3, 2]⟩,
   ⟨(some 105), .pick (.t 102) (.t 104) (.d (.bool false)), none, [2, 4]⟩,
   ⟨(some 106), .mv (.t 105), none, [5, 2]⟩,
   ⟨(some 107), .load true 1 (.t 12), some (106, true), [6]⟩,
   ⟨(some 108), .load true 1 (.t 14), some (106, true), [6]⟩,
   ⟨(some 109), .call 15 [(.t 107), (.t 108)], some (106, true), [7, 8, 6, 6]⟩,
   ⟨(some 110), .load true 1 (.t 7), some (106, true), [6]⟩,
   ⟨(some 111), .call 11 [(.t 109), (.t 110)], some (106, true), [9, 10, 9, 6]⟩,
   ⟨(some 112), .bin .eql (.t 111) (.d (.int .i64 0)), some (106, true), [11, 6]⟩,
   ⟨(some 113), .pick (.t 106) (.t 112) (.d (.bool false)), none, [6, 12]⟩,
   ⟨(some 4), .mv (.t 113), none, [13, 11, 0, 1, 2, 3, 4, 5, 6, 7, 8, 9, 10, 11, 12, 13]⟩])
 .ret)))
 .skip))
(.seq (.reg true [⟨(some 114), .load true 1 (.t 7), none, []⟩,
  ⟨(some 115), .mv (.t 0), none, []⟩,
  ⟨(some 116), .mv (.t 1), none, []⟩,
  ⟨(some 117), .call 34 [(.t 115), (.t 116)], none, [1, 2]⟩,
  ⟨(some 118), .call 33 [(.t 114), (.t 117)], none, [0, 3, 3]⟩,
  ⟨(some 4), .mv (.t 118), none, [4, 4, 0, 1, 2, 3, 4]⟩])
.ret)))))))))))
theorem r_Tlaw13_FloatTells : fnOf Tryd.prog n_Tlaw13_FloatTells = some (c_Tlaw13_FloatTells, [.t 4], 119, false) := by kernel_rfl

/-- math/bits.Div64 -/
abbrev n_math_bits_Div64 : FuncId := 69
def c_math_bits_Div64 : C := (.seq (.reg false [⟨(some 6), .mv (.d (.int .u64 0)), none, []⟩,
  ⟨(some 7), .mv (.d (.int .u64 0)), none, [0]⟩])
(.seq (.seq (.reg false [⟨(some 19), .mv (.t 2), none, []⟩,
  ⟨(some 20), .bin .eql (.t 19) (.d (.int .u64 0)), none, [0]⟩])
(.cond (.t 20)
 (.reg false [⟨(some 21), .load false 1 .bad, none, []⟩,
   ⟨none, .bad, none, [0]⟩])
 .skip))
(.seq (.seq (.reg false [⟨(some 22), .mv (.t 2), none, []⟩,
  ⟨(some 23), .mv (.t 0), none, []⟩,
  ⟨(some 24), .bin .leq (.t 22) (.t 23), none, [0, 1]⟩])
(.cond (.t 24)
 (.reg false [⟨(some 25), .load false 1 .bad, none, []⟩,
   ⟨none, .bad, none, [0]⟩])
 .skip))
(.seq (.seq (.reg false [⟨(some 26), .mv (.t 0), none, []⟩,
  ⟨(some 27), .bin .eql (.t 26) (.d (.int .u64 0)), none, [0]⟩])
(.cond (.t 27)
 (.seq (.reg true [⟨(some 28), .mv (.t 1), none, []⟩,
   ⟨(some 29), .mv (.t 2), none, []⟩,
   ⟨(some 30), .bin .quo (.t 28) (.t 29), none, [0, 1]⟩,
   ⟨(some 31), .mv (.t 1), none, []⟩,
   ⟨(some 32), .mv (.t 2), none, []⟩,
   ⟨(some 33), .bin .rem (.t 31) (.t 32), none, [3, 4]⟩,
   ⟨(some 6), .mv (.t 30), none, [2, 0, 1, 2]⟩,
   ⟨(some 7), .mv (.t 33), none, [5, 6, 0, 1, 2, 3, 4, 5, 6]⟩])
 .ret)
 .skip))
(.seq (.reg false [⟨(some 34), .mv (.t 2), none, []⟩,
  ⟨(some 35), .call 88 [(.t 34)], none, [0]⟩,
  ⟨(some 36), .conv .u64 (.t 35), none, [1]⟩,
  ⟨(some 8), .mv (.t 36), none, [2, 1, 0, 1, 2]⟩])
(.seq (.reg false [⟨(some 37), .mv (.t 2), none, []⟩,
  ⟨(some 38), .mv (.t 8), none, []⟩,
  ⟨(some 39), .bin .shl (.t 37) (.t 38), none, [0, 1]⟩,
  ⟨(some 2), .mv (.t 39), none, [2, 0, 1, 2]⟩])
(.seq (.reg false [⟨(some 40), .mv (.t 2), none, []⟩,
  ⟨(some 41), .bin .shr (.t 40) (.d (.int .u64 32)), none, [0]⟩,
  ⟨(some 9), .mv (.t 41), none, [1, 0, 1]⟩])
(.seq (.reg false [⟨(some 42), .mv (.t 2), none, []⟩,
  ⟨(some 43), .bin .and (.t 42) (.d (.int .u64 4294967295)), none, [0]⟩,
  ⟨(some 10), .mv (.t 43), none, [1, 0, 1]⟩])
(.seq (.reg false [⟨(some 44), .mv (.t 0), none, []⟩,
  ⟨(some 45), .mv (.t 8), none, []⟩,
  ⟨(some 46), .bin .shl (.t 44) (.t 45), none, [0, 1]⟩,
  ⟨(some 47), .mv (.t 1), none, []⟩,
  ⟨(some 48), .mv (.t 8), none, []⟩,
  ⟨(some 49), .bin .sub (.d (.int .u64 64)) (.t 48), none, [4]⟩,
  ⟨(some 50), .bin .shr (.t 47) (.t 49), none, [3, 5]⟩,
  ⟨(some 51), .bin .or (.t 46) (.t 50), none, [2, 6]⟩,
  ⟨(some 11), .mv (.t 51), none, [7, 0, 1, 2, 3, 4, 5, 6, 7]⟩])
(.seq (.reg false [⟨(some 52), .mv (.t 1), none, []⟩,
  ⟨(some 53), .mv (.t 8), none, []⟩,
  ⟨(some 54), .bin .shl (.t 52) (.t 53), none, [0, 1]⟩,
  ⟨(some 12), .mv (.t 54), none, [2, 0, 1, 2]⟩])
(.seq (.reg false [⟨(some 55), .mv (.t 12), none, []⟩,
  ⟨(some 56), .bin .shr (.t 55) (.d (.int .u64 32)), none, [0]⟩,
  ⟨(some 13), .mv (.t 56), none, [1, 0, 1]⟩])
(.seq (.reg false [⟨(some 57), .mv (.t 12), none, []⟩,
  ⟨(some 58), .bin .and (.t 57) (.d (.int .u64 4294967295)), none, [0]⟩,
  ⟨(some 14), .mv (.t 58), none, [1, 0, 1]⟩])
(.seq (.reg false [⟨(some 59), .mv (.t 11), none, []⟩,
  ⟨(some 60), .mv (.t 9), none, []⟩,
  ⟨(some 61), .bin .quo (.t 59) (.t 60), none, [0, 1]⟩,
  ⟨(some 15), .mv (.t 61), none, [2, 0, 1, 2]⟩])
(.seq (.reg false [⟨(some 62), .mv (.t 11), none, []⟩,
  ⟨(some 63), .mv (.t 15), none, []⟩,
  ⟨(some 64), .mv (.t 9), none, []⟩,
  ⟨(some 65), .bin .mul (.t 63) (.t 64), none, [1, 2]⟩,
  ⟨(some 66), .bin .sub (.t 62) (.t 65), none, [0, 3]⟩,
  ⟨(some 16), .mv (.t 66), none, [4, 0, 1, 2, 3, 4]⟩])
(.seq (.block 0 (.loop (.seq (.seq (.reg false [⟨(some 67), .mv (.t 15), none, []⟩,
  ⟨(some 68), .bin .geq (.t 67) (.d (.int .u64 4294967296)), none, [0]⟩,
  ⟨(some 69), .mv (.t 68), none, [1]⟩,
  ⟨(some 70), .mv (.t 15), some (69, false), [2]⟩,
  ⟨(some 71), .mv (.t 10), some (69, false), [2]⟩,
  ⟨(some 72), .bin .mul (.t 70) (.t 71), some (69, false), [3, 4, 2]⟩,
  ⟨(some 73), .mv (.t 16), some (69, false), [2]⟩,
  ⟨(some 74), .bin .mul (.d (.int .u64 4294967296)) (.t 73), some (69, false), [6, 2]⟩,
  ⟨(some 75), .mv (.t 13), some (69, false), [2]⟩,
  ⟨(some 76), .bin .add (.t 74) (.t 75), some (69, false), [7, 8, 2]⟩,
  ⟨(some 77), .bin .gtr (.t 72) (.t 76), some (69, false), [5, 9, 2]⟩,
  ⟨(some 78), .pick (.t 69) (.d (.bool true)) (.t 77), none, [2, 10]⟩])
(.cond (.t 78)
 .skip
 (.exit 0)))
(.block 1 (.seq (.reg false [⟨(some 79), .mv (.t 15), none, []⟩,
  ⟨(some 80), .bin .sub (.t 79) (.d (.int .u64 1)), none, [0]⟩,
  ⟨(some 15), .mv (.t 80), none, [1, 0, 1]⟩])
(.seq (.reg false [⟨(some 81), .mv (.t 16), none, []⟩,
  ⟨(some 82), .mv (.t 9), none, []⟩,
  ⟨(some 83), .bin .add (.t 81) (.t 82), none, [0, 1]⟩,
  ⟨(some 16), .mv (.t 83), none, [2, 0, 1, 2]⟩])
(.seq (.reg false [⟨(some 84), .mv (.t 16), none, []⟩,
  ⟨(some 85), .bin .geq (.t 84) (.d (.int .u64 4294967296)), none, [0]⟩])
(.cond (.t 85)
 (.exit 0)
 .skip))))))))
(.seq (.reg false [⟨(some 86), .mv (.t 11), none, []⟩,
  ⟨(some 87), .bin .mul (.t 86) (.d (.int .u64 4294967296)), none, [0]⟩,
  ⟨(some 88), .mv (.t 13), none, []⟩,
  ⟨(some 89), .bin .add (.t 87) (.t 88), none, [1, 2]⟩,
  ⟨(some 90), .mv (.t 15), none, []⟩,
  ⟨(some 91), .mv (.t 2), none, []⟩,
  ⟨(some 92), .bin .mul (.t 90) (.t 91), none, [4, 5]⟩,
  ⟨(some 93), .bin .sub (.t 89) (.t 92), none, [3, 6]⟩,
  ⟨(some 17), .mv (.t 93), none, [7, 0, 1, 2, 3, 4, 5, 6, 7]⟩])
(.seq (.reg false [⟨(some 94), .mv (.t 17), none, []⟩,
  ⟨(some 95), .mv (.t 9), none, []⟩,
  ⟨(some 96), .bin .quo (.t 94) (.t 95), none, [0, 1]⟩,
  ⟨(some 18), .mv (.t 96), none, [2, 0, 1, 2]⟩])
(.seq (.reg false [⟨(some 97), .mv (.t 17), none, []⟩,
  ⟨(some 98), .mv (.t 18), none, []⟩,
  ⟨(some 99), .mv (.t 9), none, []⟩,
  ⟨(some 100), .bin .mul (.t 98) (.t 99), none, [1, 2]⟩,
  ⟨(some 101), .bin .sub (.t 97) (.t 100), none, [0, 3]⟩,
  ⟨(some 16), .mv (.t 101), none, [4, 0, 1, 2, 3, 4]⟩])
(.seq (.block 2 (.loop (.seq (.seq (.reg false [⟨(some 102), .mv (.t 18), none, []⟩,
  ⟨(some 103), .bin .geq (.t 102) (.d (.int .u64 4294967296)), none, [0]⟩,
  ⟨(some 104), .mv (.t 103), none, [1]⟩,
  ⟨(some 105), .mv (.t 18), some (104, false), [2]⟩,
  ⟨(some 106), .mv (.t 10), some (104, false), [2]⟩,
  ⟨(some 107), .bin .mul (.t 105) (.t 106), some (104, false), [3, 4, 2]⟩,
  ⟨(some 108), .mv (.t 16), some (104, false), [2]⟩,
  ⟨(some 109), .bin .mul (.d (.int .u64 4294967296)) (.t 108), some (104, false), [6, 2]⟩,
  ⟨(some 110), .mv (.t 14), some (104, false), [2]⟩,
  ⟨(some 111), .bin .add (.t 109) (.t 110), some (104, false), [7, 8, 2]⟩,
  ⟨(some 112), .bin .gtr (.t 107) (.t 111), some (104, false), [5, 9, 2]⟩,
  ⟨(some 113), .pick (.t 104) (.d (.bool true)) (.t 112), none, [2, 10]⟩])
(.cond (.t 113)
 .skip
 (.exit 2)))
(.block 3 (.seq (.reg false [⟨(some 114), .mv (.t 18), none, []⟩,
  ⟨(some 115), .bin .sub (.t 114) (.d (.int .u64 1)), none, [0]⟩,
  ⟨(some 18), .mv (.t 115), none, [1, 0, 1]⟩])
(.seq (.reg false [⟨(some 116), .mv (.t 16), none, []⟩,
  ⟨(some 117), .mv (.t 9), none, []⟩,
  ⟨(some 118), .bin .add (.t 116) (.t 117), none, [0, 1]⟩,
  ⟨(some 16), .mv (.t 118), none, [2, 0, 1, 2]⟩])
(.seq (.reg false [⟨(some 119), .mv (.t 16), none, []⟩,
  ⟨(some 120), .bin .geq (.t 119) (.d (.int .u64 4294967296)), none, [0]⟩])
(.cond (.t 120)
 (.exit 2)
 .skip))))))))
(.seq (.reg false [⟨(some 121), .mv (.t 15), none, []⟩,
  ⟨(some 122), .bin .mul (.t 121) (.d (.int .u64 4294967296)), none, [0]⟩,
  ⟨(some 123), .mv (.t 18), none, []⟩,
  ⟨(some 124), .bin .add (.t 122) (.t 123), none, [1, 2]⟩,
  ⟨(some 125), .mv (.t 17), none, []⟩,
  ⟨(some 126), .bin .mul (.t 125) (.d (.int .u64 4294967296)), none, [4]⟩,
  ⟨(some 127), .mv (.t 14), none, []⟩,
  ⟨(some 128), .bin .add (.t 126) (.t 127), none, [5, 6]⟩,
  ⟨(some 129), .mv (.t 18), none, []⟩,
  ⟨(some 130), .mv (.t 2), none, []⟩,
  ⟨(some 131), .bin .mul (.t 129) (.t 130), none, [8, 9]⟩,
  ⟨(some 132), .bin .sub (.t 128) (.t 131), none, [7, 10]⟩,
  ⟨(some 133), .mv (.t 8), none, []⟩,
  ⟨(some 134), .bin .shr (.t 132) (.t 133), none, [11, 12]⟩,
  ⟨(some 6), .mv (.t 124), none, [3, 0, 1, 2, 3]⟩,
  ⟨(some 7), .mv (.t 134), none, [13, 14, 0, 1, 2, 3, 4, 5, 6, 7, 8, 9, 10, 11, 12, 13, 14]⟩])
.ret))))))))))))))))))))
theorem r_math_bits_Div64 : fnOf Tryd.prog n_math_bits_Div64 = some (c_math_bits_Div64, [.t 6, .t 7], 135, false) := by kernel_rfl

/-- internal/strconv.FormatUint -/
abbrev n_internal_strconv_FormatUint : FuncId := 70
def c_internal_strconv_FormatUint : C := (.seq (.reg false [⟨(some 4), .mv (.d (.str ⟨#[]⟩)), none, []⟩])
(.seq (.seq (.reg false [⟨(some 9), .mv (.t 1), none, []⟩,
  ⟨(some 10), .bin .eql (.t 9) (.d (.int .i64 10)), none, [0]⟩])
(.cond (.t 10)
 (.seq (.seq (.reg false [⟨(some 11), .mv (.t 0), none, []⟩,
   ⟨(some 12), .bin .lss (.t 11) (.d (.int .u64 100)), none, [0]⟩])
 (.cond (.t 12)
  (.seq (.reg false [⟨(some 13), .mv (.t 0), none, []⟩,
    ⟨(some 14), .conv .i64 (.t 13), none, [0]⟩,
    ⟨(some 15), .call 89 [(.t 14)], none, [1]⟩,
    ⟨(some 4), .mv (.t 15), none, [2, 2, 0, 1, 2]⟩])
  .ret)
  .skip))
 (.seq (.reg false [⟨(some 5), .new 125 [(.int .u8 0), (.int .u8 0), (.int .u8 0), (.int .u8 0), (.int .u8 0), (.int .u8 0), (.int .u8 0), (.int .u8 0), (.int .u8 0), (.int .u8 0), (.int .u8 0), (.int .u8 0), (.int .u8 0), (.int .u8 0), (.int .u8 0), (.int .u8 0), (.int .u8 0), (.int .u8 0), (.int .u8 0), (.int .u8 0), (.int .u8 0), (.int .u8 0), (.int .u8 0), (.int .u8 0)], none, []⟩])
 (.seq (.reg false [⟨(some 16), .mv (.t 0), none, []⟩,
   ⟨(some 17), .call 90 [(.t 16)], none, [0]⟩,
   ⟨(some 6), .mv (.t 17), none, [1, 1, 0, 1]⟩])
 (.seq (.reg false [⟨(some 18), .mv (.t 6), none, []⟩,
   ⟨(some 19), .bad, none, [0]⟩,
   ⟨(some 20), .mv (.t 0), none, []⟩,
   ⟨(some 21), .call 91 [(.t 19), (.t 20)], none, [1, 2]⟩])
 (.seq (.reg false [⟨(some 22), .mv (.t 6), none, []⟩,
   ⟨(some 23), .bad, none, [0]⟩,
   ⟨(some 24), .bad, none, [1]⟩,
   ⟨(some 4), .mv (.t 24), none, [2, 0, 1, 2]⟩])
 .ret)))))
 .skip))
(.seq (.reg false [⟨(some 26), .mv (.t 0), none, []⟩,
  ⟨(some 27), .mv (.t 1), none, []⟩,
  ⟨(some 28), .call 92 [(.d .nilsl), (.t 26), (.t 27), (.d (.bool false)), (.d (.bool false))], none, [0, 1]⟩,
  ⟨(some 25), .mv (.t 28), none, [2]⟩,
  ⟨(some 29), .ext (.t 25) 0, none, [3]⟩,
  ⟨(some 30), .ext (.t 25) 1, none, [3]⟩,
  ⟨(some 7), .mv (.t 29), none, [4, 2, 0, 1, 2, 3, 4]⟩,
  ⟨(some 8), .mv (.t 30), none, [5, 6, 0, 1, 2, 3, 4, 5, 6]⟩])
(.seq (.reg false [⟨(some 31), .mv (.t 8), none, []⟩,
  ⟨(some 4), .mv (.t 31), none, [0, 0]⟩])
.ret))))
theorem r_internal_strconv_FormatUint : fnOf Tryd.prog n_internal_strconv_FormatUint = some (c_internal_strconv_FormatUint, [.t 4], 32, false) := by kernel_rfl

/-- tallymark/yu.Good -/
abbrev n_yu_Good : FuncId := 39
def c_yu_Good : C := (.seq (.reg false [⟨(some 2), .mv (.d (.bool false)), none, []⟩])
(.seq (.reg false [⟨(some 3), .mv (.t 0), none, []⟩,
  ⟨(some 4), .bin .geq (.t 3) (.d (.int .i64 1)), none, [0]⟩,
  ⟨(some 5), .mv (.t 4), none, [1]⟩,
  ⟨(some 6), .mv (.t 0), some (5, true), [2]⟩,
  ⟨(some 7), .bin .leq (.t 6) (.d (.int .i64 5)), some (5, true), [3, 2]⟩,
  ⟨(some 8), .pick (.t 5) (.t 7) (.d (.bool false)), none, [2, 4]⟩,
  ⟨(some 2), .mv (.t 8), none, [5, 2, 0, 1, 2, 3, 4, 5]⟩])
.ret))
theorem r_yu_Good : fnOf Tryd.prog n_yu_Good = some (c_yu_Good, [.t 2], 9, false) := by kernel_rfl

/-- tallymark/yu.walk -/
abbrev n_yu_walk : FuncId := 40
def c_yu_walk : C := (.seq (.reg false [⟨(some 1), .box 3 (.t 0), none, []⟩,
  ⟨(some 2), .mv (.d .nilfn), none, []⟩])
(.seq (.reg false [⟨(some 3), .mkf (.func 67) [(.t 1)], none, []⟩,
  ⟨(some 2), .mv (.t 3), none, [0, 0]⟩])
.ret))
theorem r_yu_walk : fnOf Tryd.prog n_yu_walk = some (c_yu_walk, [.t 2], 4, false) := by kernel_rfl

/-- tallymark/tallymarklaw14.awake -/
abbrev n_Tlaw14_awake : FuncId := 9
def c_Tlaw14_awake : C := (.seq (.reg false [⟨(some 0), .mv (.d (.bool false)), none, []⟩])
(.seq (.reg false [⟨(some 4), .call 10 [(.d (.int .i64 1)), (.d (.int .i64 9))], none, []⟩,
  ⟨(some 3), .mv (.t 4), none, [0]⟩,
  ⟨(some 5), .ext (.t 3) 0, none, [1]⟩,
  ⟨(some 6), .ext (.t 3) 1, none, [1]⟩,
  ⟨(some 1), .new 27 [(.int .i64 0), (.int .i64 0), .nilsl, .nilsl], none, []⟩,
  ⟨none, .store 4 (.t 1) (.t 5), none, [4, 2, 0, 0, 1, 2, 4]⟩,
  ⟨(some 2), .mv (.t 6), none, [3, 5, 0, 1, 2, 3, 4, 5]⟩])
(.seq (.reg false [⟨(some 7), .mv (.t 2), none, []⟩,
  ⟨(some 8), .bin .eql (.t 7) (.d (.int .i64 0)), none, [0]⟩,
  ⟨(some 9), .mv (.t 8), none, [1]⟩,
  ⟨(some 10), .call 39 [(.d (.int .i64 5))], some (9, true), [2, 2]⟩,
  ⟨(some 11), .pick (.t 9) (.t 10) (.d (.bool false)), none, [2, 3]⟩,
  ⟨(some 12), .mv (.t 11), none, [4, 3]⟩,
  ⟨(some 13), .fa 0 (.t 1), some (12, true), [5]⟩,
  ⟨(some 14), .load false 1 (.t 13), some (12, true), [6, 5]⟩,
  ⟨(some 15), .bin .eql (.t 14) (.d (.int .i64 3)), some (12, true), [7, 5]⟩,
  ⟨(some 16), .pick (.t 12) (.t 15) (.d (.bool false)), none, [5, 8]⟩,
  ⟨(some 17), .mv (.t 16), none, [9, 5]⟩,
  ⟨(some 18), .fa 1 (.t 1), some (17, true), [10]⟩,
  ⟨(some 19), .load false 1 (.t 18), some (17, true), [11, 10]⟩,
  ⟨(some 20), .bin .eql (.t 19) (.d (.int .i64 1)), some (17, true), [12, 10]⟩,
  ⟨(some 21), .pick (.t 17) (.t 20) (.d (.bool false)), none, [10, 13]⟩,
  ⟨(some 22), .mv (.t 21), none, [14, 10]⟩,
  ⟨(some 23), .fa 2 (.t 1), some (22, true), [15]⟩,
  ⟨(some 24), .load true 1 (.t 23), some (22, true), [16, 15]⟩,
  ⟨(some 25), .call 12 [(.t 24)], some (22, true), [17, 15, 15]⟩,
  ⟨(some 26), .bin .eql (.t 25) (.d (.str ⟨#[49, 50]⟩)), some (22, true), [18, 15]⟩,
  ⟨(some 27), .pick (.t 22) (.t 26) (.d (.bool false)), none, [15, 19]⟩,
  ⟨(some 28), .mv (.t 27), none, [20, 18]⟩,
  ⟨(some 29), .fa 3 (.t 1), some (28, true), [21]⟩,
  ⟨(some 30), .load true 1 (.t 29), some (28, true), [22, 21]⟩,
  ⟨(some 31), .call 12 [(.t 30)], some (28, true), [23, 21, 21]⟩,
  ⟨(some 32), .bin .eql (.t 31) (.d (.str ⟨#[49, 52]⟩)), some (28, true), [24, 21]⟩,
  ⟨(some 33), .pick (.t 28) (.t 32) (.d (.bool false)), none, [21, 25]⟩,
  ⟨(some 0), .mv (.t 33), none, [26, 24, 0, 1, 2, 3, 4, 5, 6, 7, 8, 9, 10, 11, 12, 13, 14, 15, 16, 17, 18, 19, 20, 21, 22, 23, 24, 25, 26]⟩])
.ret)))
theorem r_Tlaw14_awake : fnOf Tryd.prog n_Tlaw14_awake = some (c_Tlaw14_awake, [.t 0], 34, false) := by kernel_rfl

/-- tallymark/tallymarklaw14.YuBounds -/
abbrev n_Tlaw14_YuBounds : FuncId := 3
def c_Tlaw14_YuBounds : C := (.seq (.reg false [⟨(some 4), .mv (.d (.bool false)), none, []⟩])
(.seq (.seq (.reg false [⟨(some 15), .call 9 [], none, []⟩,
  ⟨(some 16), .un .not (.t 15), none, [0]⟩])
(.cond (.t 16)
 (.seq (.reg false [⟨(some 4), .mv (.d (.bool false)), none, []⟩])
 .ret)
 .skip))
(.seq (.reg false [⟨(some 17), .mv (.t 0), none, []⟩,
  ⟨(some 18), .bin .and (.t 17) (.d (.int .i64 3)), none, [0]⟩,
  ⟨(some 19), .bin .add (.d (.int .i64 1)) (.t 18), none, [1]⟩,
  ⟨(some 20), .mv (.t 1), none, []⟩,
  ⟨(some 21), .bin .and (.t 20) (.d (.int .i64 1023)), none, [3]⟩,
  ⟨(some 0), .mv (.t 19), none, [2, 0, 1, 2]⟩,
  ⟨(some 1), .mv (.t 21), none, [4, 5, 0, 1, 2, 3, 4, 5]⟩])
(.seq (.reg false [⟨(some 23), .mv (.t 0), none, []⟩,
  ⟨(some 24), .mv (.t 1), none, []⟩,
  ⟨(some 25), .call 10 [(.t 23), (.t 24)], none, [0, 1]⟩,
  ⟨(some 22), .mv (.t 25), none, [2]⟩,
  ⟨(some 26), .ext (.t 22) 0, none, [3]⟩,
  ⟨(some 27), .ext (.t 22) 1, none, [3]⟩,
  ⟨(some 5), .new 27 [(.int .i64 0), (.int .i64 0), .nilsl, .nilsl], none, []⟩,
  ⟨none, .store 4 (.t 5) (.t 26), none, [6, 4, 2, 0, 1, 2, 3, 4, 6]⟩,
  ⟨(some 6), .mv (.t 27), none, [5, 7, 0, 1, 2, 3, 4, 5, 6, 7]⟩])
(.seq (.seq (.reg false [⟨(some 28), .mv (.t 6), none, []⟩,
  ⟨(some 29), .bin .neq (.t 28) (.d (.int .i64 0)), none, [0]⟩])
(.cond (.t 29)
 (.seq (.reg false [⟨(some 4), .mv (.d (.bool false)), none, []⟩])
 .ret)
 .skip))
(.seq (.seq (.reg false [⟨(some 30), .fa 0 (.t 5), none, []⟩,
  ⟨(some 31), .load false 1 (.t 30), none, [0]⟩,
  ⟨(some 32), .bin .eql (.t 31) (.d (.int .i64 0)), none, [1]⟩])
(.cond (.t 32)
 (.seq (.reg true [⟨(some 33), .fa 2 (.t 5), none, []⟩,
   ⟨(some 34), .load true 1 (.t 33), none, [0]⟩,
   ⟨(some 35), .fa 3 (.t 5), none, []⟩,
   ⟨(some 36), .load true 1 (.t 35), none, [2]⟩,
   ⟨(some 37), .call 11 [(.t 34), (.t 36)], none, [1, 3]⟩,
   ⟨(some 38), .bin .lss (.t 37) (.d (.int .i64 0)), none, [4]⟩,
   ⟨(some 39), .mv (.t 38), none, [5, 4]⟩,
   ⟨(some 40), .fa 3 (.t 5), some (39, true), [6]⟩,
   ⟨(some 41), .load true 1 (.t 40), some (39, true), [7, 6]⟩,
   ⟨(some 42), .call 12 [(.t 41)], some (39, true), [8, 6, 6]⟩,
   ⟨(some 43), .mv (.t 0), some (39, true), [6]⟩,
   ⟨(some 44), .bin .mul (.d (.int .i64 2)) (.t 43), some (39, true), [10, 6]⟩,
   ⟨(some 45), .bin .shl (.d (.int .u64 1)) (.t 44), some (39, true), [11, 6]⟩,
   ⟨(some 46), .bsl 34 1 1 [(.int .u64 0)] [(0, 1, (.t 45))], some (39, true), [12, 6]⟩,
   ⟨(some 47), .call 13 [(.t 46)], some (39, true), [13, 9, 6]⟩,
   ⟨(some 48), .call 12 [(.t 47)], some (39, true), [14, 14, 6]⟩,
   ⟨(some 49), .bin .eql (.t 42) (.t 48), some (39, true), [9, 15, 6]⟩,
   ⟨(some 50), .pick (.t 39) (.t 49) (.d (.bool false)), none, [6, 16]⟩,
   ⟨(some 4), .mv (.t 50), none, [17, 15, 0, 1, 2, 3, 4, 5, 6, 7, 8, 9, 10, 11, 12, 13, 14, 15, 16, 17]⟩])
 .ret)
 .skip))
(.seq (.reg false [⟨(some 51), .load true 4 (.t 5), none, []⟩,
  ⟨(some 7), .new 27 [(.int .i64 0), (.int .i64 0), .nilsl, .nilsl], none, []⟩,
  ⟨none, .store 4 (.t 7) (.t 51), none, [1, 0, 0, 1]⟩])
(.seq (.seq (.reg false [⟨(some 52), .mv (.t 1), none, []⟩,
  ⟨(some 8), .mv (.t 52), none, [0, 0]⟩])
(.block 0 (.loop (.seq (.seq (.reg false [⟨(some 53), .fa 0 (.t 7), none, []⟩,
  ⟨(some 54), .load false 1 (.t 53), none, [0]⟩,
  ⟨(some 55), .fa 0 (.t 5), none, []⟩,
  ⟨(some 56), .load false 1 (.t 55), none, [2]⟩,
  ⟨(some 57), .bin .eql (.t 54) (.t 56), none, [1, 3]⟩])
(.cond (.t 57)
 .skip
 (.exit 0)))
(.seq (.block 1 (.seq (.reg false [⟨(some 61), .mv (.t 0), none, []⟩,
  ⟨(some 62), .mv (.t 8), none, []⟩,
  ⟨(some 63), .call 10 [(.t 61), (.t 62)], none, [0, 1]⟩,
  ⟨(some 60), .mv (.t 63), none, [2]⟩,
  ⟨(some 64), .ext (.t 60) 0, none, [3]⟩,
  ⟨(some 65), .ext (.t 60) 1, none, [3]⟩,
  ⟨(some 9), .new 27 [(.int .i64 0), (.int .i64 0), .nilsl, .nilsl], none, []⟩,
  ⟨none, .store 4 (.t 9) (.t 64), none, [6, 4, 2, 0, 1, 2, 3, 4, 6]⟩,
  ⟨(some 10), .mv (.t 65), none, [5, 7, 0, 1, 2, 3, 4, 5, 6, 7]⟩])
(.seq (.seq (.reg false [⟨(some 66), .mv (.t 10), none, []⟩,
  ⟨(some 67), .bin .neq (.t 66) (.d (.int .i64 0)), none, [0]⟩])
(.cond (.t 67)
 (.seq (.reg false [⟨(some 4), .mv (.d (.bool false)), none, []⟩])
 .ret)
 .skip))
(.seq (.reg false [⟨(some 68), .load true 4 (.t 9), none, []⟩,
  ⟨none, .store 4 (.t 7) (.t 68), none, [0, 0]⟩])
(.seq (.reg false [⟨(some 69), .fa 0 (.t 5), none, []⟩,
  ⟨(some 70), .load false 1 (.t 69), none, [0]⟩,
  ⟨(some 71), .fa 0 (.t 7), none, []⟩,
  ⟨(some 72), .load false 1 (.t 71), none, [2]⟩,
  ⟨(some 73), .bin .sub (.t 70) (.t 72), none, [1, 3]⟩,
  ⟨(some 74), .bin .gtr (.t 73) (.d (.int .i64 1)), none, [4]⟩,
  ⟨(some 75), .mv (.t 74), none, [5]⟩,
  ⟨(some 76), .mv (.t 1), some (75, false), [6]⟩,
  ⟨(some 77), .mv (.t 8), some (75, false), [6]⟩,
  ⟨(some 78), .bin .sub (.t 76) (.t 77), some (75, false), [7, 8, 6]⟩,
  ⟨(some 79), .bin .gtr (.t 78) (.d (.int .i64 200)), some (75, false), [9, 6]⟩,
  ⟨(some 80), .pick (.t 75) (.d (.bool true)) (.t 79), none, [6, 10]⟩])
(.cond (.t 80)
 (.seq (.reg false [⟨(some 81), .mv (.t 1), none, []⟩,
   ⟨(some 82), .mv (.t 8), none, []⟩,
   ⟨(some 83), .bin .sub (.t 81) (.t 82), none, [0, 1]⟩,
   ⟨(some 84), .bin .gtr (.t 83) (.d (.int .i64 200)), none, [2]⟩,
   ⟨(some 4), .mv (.t 84), none, [3, 0, 1, 2, 3]⟩])
 .ret)
 .skip))))))
(.reg false [⟨(some 58), .mv (.t 8), none, []⟩,
  ⟨(some 59), .bin .sub (.t 58) (.d (.int .i64 1)), none, [0]⟩,
  ⟨(some 8), .mv (.t 59), none, [1, 0, 1]⟩]))))))
(.seq (.reg false [⟨(some 86), .fa 2 (.t 5), none, []⟩,
  ⟨(some 87), .load true 1 (.t 86), none, [0]⟩,
  ⟨(some 88), .mv (.t 0), none, []⟩,
  ⟨(some 89), .call 14 [(.t 87), (.t 88)], none, [1, 2]⟩,
  ⟨(some 85), .mv (.t 89), none, [3]⟩,
  ⟨(some 90), .ext (.t 85) 0, none, [4]⟩,
  ⟨(some 91), .ext (.t 85) 1, none, [4]⟩,
  ⟨(some 11), .new 25 [.nilsl], none, []⟩,
  ⟨none, .store 1 (.t 11) (.t 90), none, [7, 5, 3, 0, 1, 2, 3, 4, 5, 7]⟩,
  ⟨(some 12), .mv (.t 91), none, [6, 8, 0, 1, 2, 3, 4, 5, 6, 7, 8]⟩])
(.seq (.reg false [⟨(some 93), .fa 3 (.t 5), none, []⟩,
  ⟨(some 94), .load true 1 (.t 93), none, [0]⟩,
  ⟨(some 95), .mv (.t 0), none, []⟩,
  ⟨(some 96), .call 14 [(.t 94), (.t 95)], none, [1, 2]⟩,
  ⟨(some 92), .mv (.t 96), none, [3]⟩,
  ⟨(some 97), .ext (.t 92) 0, none, [4]⟩,
  ⟨(some 98), .ext (.t 92) 1, none, [4]⟩,
  ⟨(some 13), .new 25 [.nilsl], none, []⟩,
  ⟨none, .store 1 (.t 13) (.t 97), none, [7, 5, 3, 0, 1, 2, 3, 4, 5, 7]⟩,
  ⟨(some 14), .mv (.t 98), none, [6, 8, 0, 1, 2, 3, 4, 5, 6, 7, 8]⟩])
(.seq (.reg true [⟨(some 99), .fa 3 (.t 7), none, []⟩,
  ⟨(some 100), .load true 1 (.t 99), none, [0]⟩,
  ⟨(some 101), .fa 2 (.t 5), none, []⟩,
  ⟨(some 102), .load true 1 (.t 101), none, [2]⟩,
  ⟨(some 103), .call 11 [(.t 100), (.t 102)], none, [1, 3]⟩,
  ⟨(some 104), .bin .leq (.t 103) (.d (.int .i64 0)), none, [4]⟩,
  ⟨(some 105), .mv (.t 104), none, [5, 4]⟩,
  ⟨(some 106), .fa 3 (.t 7), some (105, true), [6]⟩,
  ⟨(some 107), .load true 1 (.t 106), some (105, true), [7, 6]⟩,
  ⟨(some 108), .fa 3 (.t 5), some (105, true), [6]⟩,
  ⟨(some 109), .load true 1 (.t 108), some (105, true), [9, 6]⟩,
  ⟨(some 110), .call 11 [(.t 107), (.t 109)], some (105, true), [8, 10, 6, 6]⟩,
  ⟨(some 111), .bin .lss (.t 110) (.d (.int .i64 0)), some (105, true), [11, 6]⟩,
  ⟨(some 112), .pick (.t 105) (.t 111) (.d (.bool false)), none, [6, 12]⟩,
  ⟨(some 113), .mv (.t 112), none, [13, 11]⟩,
  ⟨(some 114), .load true 1 (.t 11), some (113, true), [14]⟩,
  ⟨(some 115), .load true 1 (.t 13), some (113, true), [14]⟩,
  ⟨(some 116), .fa 3 (.t 5), some (113, true), [14]⟩,
  ⟨(some 117), .load true 1 (.t 116), some (113, true), [17, 14]⟩,
  ⟨(some 118), .call 15 [(.t 115), (.t 117)], some (113, true), [16, 18, 14, 14]⟩,
  ⟨(some 119), .call 11 [(.t 114), (.t 118)], some (113, true), [15, 19, 19, 14]⟩,
  ⟨(some 120), .bin .lss (.t 119) (.d (.int .i64 0)), some (113, true), [20, 14]⟩,
  ⟨(some 121), .pick (.t 113) (.t 120) (.d (.bool false)), none, [14, 21]⟩,
  ⟨(some 4), .mv (.t 121), none, [22, 20, 0, 1, 2, 3, 4, 5, 6, 7, 8, 9, 10, 11, 12, 13, 14, 15, 16, 17, 18, 19, 20, 21, 22]⟩])
.ret)))))))))))
theorem r_Tlaw14_YuBounds : fnOf Tryd.prog n_Tlaw14_YuBounds = some (c_Tlaw14_YuBounds, [.t 4], 122, false) := by kernel_rfl

/-- tallymark/tallymarklaw14.YuRises -/
abbrev n_Tlaw14_YuRises : FuncId := 4
def c_Tlaw14_YuRises : C := (.seq (.reg false [⟨(some 4), .mv (.d (.bool false)), none, []⟩])
(.seq (.seq (.reg false [⟨(some 9), .call 9 [], none, []⟩,
  ⟨(some 10), .un .not (.t 9), none, [0]⟩])
(.cond (.t 10)
 (.seq (.reg false [⟨(some 4), .mv (.d (.bool false)), none, []⟩])
 .ret)
 .skip))
(.seq (.reg false [⟨(some 11), .mv (.t 0), none, []⟩,
  ⟨(some 12), .bin .and (.t 11) (.d (.int .i64 15)), none, [0]⟩,
  ⟨(some 13), .bin .rem (.t 12) (.d (.int .i64 5)), none, [1]⟩,
  ⟨(some 14), .bin .add (.d (.int .i64 1)) (.t 13), none, [2]⟩,
  ⟨(some 15), .mv (.t 1), none, []⟩,
  ⟨(some 16), .bin .and (.t 15) (.d (.int .i64 511)), none, [4]⟩,
  ⟨(some 0), .mv (.t 14), none, [3, 0, 1, 2, 3]⟩,
  ⟨(some 1), .mv (.t 16), none, [5, 6, 0, 1, 2, 3, 4, 5, 6]⟩])
(.seq (.reg false [⟨(some 18), .mv (.t 0), none, []⟩,
  ⟨(some 19), .mv (.t 1), none, []⟩,
  ⟨(some 20), .call 10 [(.t 18), (.t 19)], none, [0, 1]⟩,
  ⟨(some 17), .mv (.t 20), none, [2]⟩,
  ⟨(some 21), .ext (.t 17) 0, none, [3]⟩,
  ⟨(some 22), .ext (.t 17) 1, none, [3]⟩,
  ⟨(some 5), .new 27 [(.int .i64 0), (.int .i64 0), .nilsl, .nilsl], none, []⟩,
  ⟨none, .store 4 (.t 5) (.t 21), none, [6, 4, 2, 0, 1, 2, 3, 4, 6]⟩,
  ⟨(some 6), .mv (.t 22), none, [5, 7, 0, 1, 2, 3, 4, 5, 6, 7]⟩])
(.seq (.reg false [⟨(some 24), .mv (.t 0), none, []⟩,
  ⟨(some 25), .mv (.t 1), none, []⟩,
  ⟨(some 26), .bin .add (.t 25) (.d (.int .i64 1)), none, [1]⟩,
  ⟨(some 27), .call 10 [(.t 24), (.t 26)], none, [0, 2]⟩,
  ⟨(some 23), .mv (.t 27), none, [3]⟩,
  ⟨(some 28), .ext (.t 23) 0, none, [4]⟩,
  ⟨(some 29), .ext (.t 23) 1, none, [4]⟩,
  ⟨(some 7), .new 27 [(.int .i64 0), (.int .i64 0), .nilsl, .nilsl], none, []⟩,
  ⟨none, .store 4 (.t 7) (.t 28), none, [7, 5, 3, 0, 1, 2, 3, 4, 5, 7]⟩,
  ⟨(some 8), .mv (.t 29), none, [6, 8, 0, 1, 2, 3, 4, 5, 6, 7, 8]⟩])
(.seq (.reg true [⟨(some 30), .mv (.t 6), none, []⟩,
  ⟨(some 31), .bin .eql (.t 30) (.d (.int .i64 0)), none, [0]⟩,
  ⟨(some 32), .mv (.t 31), none, [1]⟩,
  ⟨(some 33), .mv (.t 8), some (32, true), [2]⟩,
  ⟨(some 34), .bin .eql (.t 33) (.d (.int .i64 0)), some (32, true), [3, 2]⟩,
  ⟨(some 35), .pick (.t 32) (.t 34) (.d (.bool false)), none, [2, 4]⟩,
  ⟨(some 36), .mv (.t 35), none, [5, 2]⟩,
  ⟨(some 37), .fa 2 (.t 5), some (36, true), [6]⟩,
  ⟨(some 38), .load true 1 (.t 37), some (36, true), [7, 6]⟩,
  ⟨(some 39), .fa 2 (.t 7), some (36, true), [6]⟩,
  ⟨(some 40), .load true 1 (.t 39), some (36, true), [9, 6]⟩,
  ⟨(some 41), .call 11 [(.t 38), (.t 40)], some (36, true), [8, 10, 6, 6]⟩,
  ⟨(some 42), .bin .lss (.t 41) (.d (.int .i64 0)), some (36, true), [11, 6]⟩,
  ⟨(some 43), .pick (.t 36) (.t 42) (.d (.bool false)), none, [6, 12]⟩,
  ⟨(some 44), .mv (.t 43), none, [13, 11]⟩,
  ⟨(some 45), .fa 3 (.t 5), some (44, true), [14]⟩,
  ⟨(some 46), .load true 1 (.t 45), some (44, true), [15, 14]⟩,
  ⟨(some 47), .fa 3 (.t 7), some (44, true), [14]⟩,
  ⟨(some 48), .load true 1 (.t 47), some (44, true), [17, 14]⟩,
  ⟨(some 49), .call 11 [(.t 46), (.t 48)], some (44, true), [16, 18, 14, 14]⟩,
  ⟨(some 50), .bin .leq (.t 49) (.d (.int .i64 0)), some (44, true), [19, 14]⟩,
  ⟨(some 51), .pick (.t 44) (.t 50) (.d (.bool false)), none, [14, 20]⟩,
  ⟨(some 52), .mv (.t 51), none, [21, 19]⟩,
  ⟨(some 53), .fa 0 (.t 5), some (52, true), [22]⟩,
  ⟨(some 54), .load false 1 (.t 53), some (52, true), [23, 22]⟩,
  ⟨(some 55), .fa 0 (.t 7), some (52, true), [22]⟩,
  ⟨(some 56), .load false 1 (.t 55), some (52, true), [25, 22]⟩,
  ⟨(some 57), .bin .eql (.t 54) (.t 56), some (52, true), [24, 26, 22]⟩,
  ⟨(some 58), .fa 3 (.t 5), some (52, true), [22]⟩,
  ⟨(some 59), .load true 1 (.t 58), some (52, true), [28, 22]⟩,
  ⟨(some 60), .fa 3 (.t 7), some (52, true), [22]⟩,
  ⟨(some 61), .load true 1 (.t 60), some (52, true), [30, 22]⟩,
  ⟨(some 62), .call 11 [(.t 59), (.t 61)], some (52, true), [29, 31, 22, 22]⟩,
  ⟨(some 63), .bin .eql (.t 62) (.d (.int .i64 0)), some (52, true), [32, 22]⟩,
  ⟨(some 64), .beq false (.t 57) (.t 63), some (52, true), [27, 33, 22]⟩,
  ⟨(some 65), .pick (.t 52) (.t 64) (.d (.bool false)), none, [22, 34]⟩,
  ⟨(some 66), .mv (.t 65), none, [35, 32]⟩,
  ⟨(some 67), .fa 1 (.t 5), some (66, true), [36]⟩,
  ⟨(some 68), .load false 1 (.t 67), some (66, true), [37, 36]⟩,
  ⟨(some 69), .fa 1 (.t 7), some (66, true), [36]⟩,
  ⟨(some 70), .load false 1 (.t 69), some (66, true), [39, 36]⟩,
  ⟨(some 71), .bin .leq (.t 68) (.t 70), some (66, true), [38, 40, 36]⟩,
  ⟨(some 72), .pick (.t 66) (.t 71) (.d (.bool false)), none, [36, 41]⟩,
  ⟨(some 73), .mv (.t 72), none, [42, 36]⟩,
  ⟨(some 74), .fa 1 (.t 7), some (73, true), [43]⟩,
  ⟨(some 75), .load false 1 (.t 74), some (73, true), [44, 43]⟩,
  ⟨(some 76), .fa 1 (.t 5), some (73, true), [43]⟩,
  ⟨(some 77), .load false 1 (.t 76), some (73, true), [46, 43]⟩,
  ⟨(some 78), .bin .add (.t 77) (.d (.int .i64 1)), some (73, true), [47, 43]⟩,
  ⟨(some 79), .bin .leq (.t 75) (.t 78), some (73, true), [45, 48, 43]⟩,
  ⟨(some 80), .pick (.t 73) (.t 79) (.d (.bool false)), none, [43, 49]⟩,
  ⟨(some 81), .mv (.t 80), none, [50, 43]⟩,
  ⟨(some 82), .fa 2 (.t 5), some (81, true), [51]⟩,
  ⟨(some 83), .load true 1 (.t 82), some (81, true), [52, 51]⟩,
  ⟨(some 84), .fa 3 (.t 5), some (81, true), [51]⟩,
  ⟨(some 85), .load true 1 (.t 84), some (81, true), [54, 51]⟩,
  ⟨(some 86), .call 11 [(.t 83), (.t 85)], some (81, true), [53, 55, 51, 51]⟩,
  ⟨(some 87), .bin .lss (.t 86) (.d (.int .i64 0)), some (81, true), [56, 51]⟩,
  ⟨(some 88), .pick (.t 81) (.t 87) (.d (.bool false)), none, [51, 57]⟩,
  ⟨(some 4), .mv (.t 88), none, [58, 56, 0, 1, 2, 3, 4, 5, 6, 7, 8, 9, 10, 11, 12, 13, 14, 15, 16, 17, 18, 19, 20, 21, 22, 23, 24, 25, 26, 27, 28, 29, 30, 31, 32, 33, 34, 35, 36, 37, 38, 39, 40, 41, 42, 43, 44, 45, 46, 47, 48, 49, 50, 51, 52, 53, 54, 55, 56, 57, 58]⟩])
.ret))))))
theorem r_Tlaw14_YuRises : fnOf Tryd.prog n_Tlaw14_YuRises = some (c_Tlaw14_YuRises, [.t 4], 89, false) := by kernel_rfl

/-- tallymark/yu.Step -/
abbrev n_yu_Step : FuncId := 18
def c_yu_Step : C := (.seq (.reg false [⟨(some 6), .mv (.d (.bool false)), none, []⟩,
  ⟨(some 7), .mv (.d (.int .i64 0)), none, [0]⟩])
(.seq (.reg false [⟨(some 11), .mv (.t 1), none, []⟩,
  ⟨(some 12), .mv (.t 2), none, []⟩,
  ⟨(some 13), .call 10 [(.t 11), (.t 12)], none, [0, 1]⟩,
  ⟨(some 10), .mv (.t 13), none, [2]⟩,
  ⟨(some 14), .ext (.t 10) 0, none, [3]⟩,
  ⟨(some 15), .ext (.t 10) 1, none, [3]⟩,
  ⟨(some 8), .new 27 [(.int .i64 0), (.int .i64 0), .nilsl, .nilsl], none, []⟩,
  ⟨none, .store 4 (.t 8) (.t 14), none, [6, 4, 2, 0, 1, 2, 3, 4, 6]⟩,
  ⟨(some 9), .mv (.t 15), none, [5, 7, 0, 1, 2, 3, 4, 5, 6, 7]⟩])
(.seq (.seq (.reg false [⟨(some 16), .mv (.t 9), none, []⟩,
  ⟨(some 17), .bin .neq (.t 16) (.d (.int .i64 0)), none, [0]⟩])
(.cond (.t 17)
 (.seq (.reg false [⟨(some 18), .mv (.t 9), none, []⟩,
   ⟨(some 6), .mv (.d (.bool false)), none, []⟩,
   ⟨(some 7), .mv (.t 18), none, [0, 1, 0, 1]⟩])
 .ret)
 .skip))
(.seq (.reg false [⟨(some 19), .mv (.t 0), none, []⟩,
  ⟨(some 20), .fa 1 (.t 8), none, []⟩,
  ⟨(some 21), .load false 1 (.t 20), none, [1]⟩,
  ⟨(some 22), .call 49 [(.t 19), (.t 21)], none, [0, 2]⟩,
  ⟨(some 23), .ext (.t 22) 0, none, [3]⟩,
  ⟨(some 24), .ext (.t 22) 1, none, [3]⟩,
  ⟨(some 6), .mv (.t 23), none, [4, 3, 0, 1, 2, 3, 4, 5]⟩,
  ⟨(some 7), .mv (.t 24), none, [5, 6, 0, 1, 2, 3, 4, 5, 6]⟩])
.ret))))
theorem r_yu_Step : fnOf Tryd.prog n_yu_Step = some (c_yu_Step, [.t 6, .t 7], 25, false) := by kernel_rfl

/-- tallymark/tallymarkref14.Wrong -/
abbrev n_Tref14_Wrong : FuncId := 19
def c_Tref14_Wrong : C := (.seq (.reg false [⟨(some 4), .mv (.d (.int .i64 0)), none, []⟩])
(.seq (.seq (.reg false [⟨(some 5), .mv (.t 0), none, []⟩,
  ⟨(some 6), .bin .lss (.t 5) (.d (.int .i64 1)), none, [0]⟩,
  ⟨(some 7), .mv (.t 6), none, [1]⟩,
  ⟨(some 8), .mv (.t 0), some (7, false), [2]⟩,
  ⟨(some 9), .bin .gtr (.t 8) (.d (.int .i64 5)), some (7, false), [3, 2]⟩,
  ⟨(some 10), .pick (.t 7) (.d (.bool true)) (.t 9), none, [2, 4]⟩])
(.cond (.t 10)
 (.seq (.reg false [⟨(some 4), .mv (.d (.int .i64 10)), none, []⟩])
 .ret)
 .skip))
(.seq (.seq (.reg false [⟨(some 11), .mv (.t 1), none, []⟩,
  ⟨(some 12), .bin .lss (.t 11) (.d (.int .i64 0)), none, [0]⟩,
  ⟨(some 13), .mv (.t 12), none, [1]⟩,
  ⟨(some 14), .mv (.t 1), some (13, false), [2]⟩,
  ⟨(some 15), .bin .gtr (.t 14) (.d (.int .i64 1023)), some (13, false), [3, 2]⟩,
  ⟨(some 16), .pick (.t 13) (.d (.bool true)) (.t 15), none, [2, 4]⟩])
(.cond (.t 16)
 (.seq (.reg false [⟨(some 4), .mv (.d (.int .i64 2)), none, []⟩])
 .ret)
 .skip))
(.seq (.reg false [⟨(some 4), .mv (.d (.int .i64 0)), none, []⟩])
.ret))))
theorem r_Tref14_Wrong : fnOf Tryd.prog n_Tref14_Wrong = some (c_Tref14_Wrong, [.t 4], 17, false) := by kernel_rfl

/-- tallymark/yu.Again -/
abbrev n_yu_Again : FuncId := 22
def c_yu_Again : C := (.seq (.reg false [⟨(some 8), .mv (.d (.bool false)), none, []⟩,
  ⟨(some 9), .mv (.d (.int .i64 0)), none, [0]⟩])
(.seq (.reg false [⟨(some 14), .mv (.t 1), none, []⟩,
  ⟨(some 15), .mv (.t 2), none, []⟩,
  ⟨(some 16), .call 10 [(.t 14), (.t 15)], none, [0, 1]⟩,
  ⟨(some 13), .mv (.t 16), none, [2]⟩,
  ⟨(some 17), .ext (.t 13) 0, none, [3]⟩,
  ⟨(some 18), .ext (.t 13) 1, none, [3]⟩,
  ⟨(some 10), .new 27 [(.int .i64 0), (.int .i64 0), .nilsl, .nilsl], none, []⟩,
  ⟨none, .store 4 (.t 10) (.t 17), none, [6, 4, 2, 0, 1, 2, 3, 4, 6]⟩,
  ⟨(some 11), .mv (.t 18), none, [5, 7, 0, 1, 2, 3, 4, 5, 6, 7]⟩])
(.seq (.seq (.reg false [⟨(some 19), .mv (.t 11), none, []⟩,
  ⟨(some 20), .bin .neq (.t 19) (.d (.int .i64 0)), none, [0]⟩])
(.cond (.t 20)
 (.seq (.reg false [⟨(some 21), .mv (.t 11), none, []⟩,
   ⟨(some 8), .mv (.d (.bool false)), none, []⟩,
   ⟨(some 9), .mv (.t 21), none, [0, 1, 0, 1]⟩])
 .ret)
 .skip))
(.seq (.reg false [⟨(some 23), .mv (.t 1), none, []⟩,
  ⟨(some 24), .mv (.t 3), none, []⟩,
  ⟨(some 25), .call 10 [(.t 23), (.t 24)], none, [0, 1]⟩,
  ⟨(some 22), .mv (.t 25), none, [2]⟩,
  ⟨(some 26), .ext (.t 22) 0, none, [3]⟩,
  ⟨(some 27), .ext (.t 22) 1, none, [3]⟩,
  ⟨(some 12), .new 27 [(.int .i64 0), (.int .i64 0), .nilsl, .nilsl], none, []⟩,
  ⟨none, .store 4 (.t 12) (.t 26), none, [6, 4, 2, 0, 1, 2, 3, 4, 6]⟩,
  ⟨(some 11), .mv (.t 27), none, [5, 7, 0, 1, 2, 3, 4, 5, 6, 7]⟩])
(.seq (.seq (.reg false [⟨(some 28), .mv (.t 11), none, []⟩,
  ⟨(some 29), .bin .neq (.t 28) (.d (.int .i64 0)), none, [0]⟩])
(.cond (.t 29)
 (.seq (.reg false [⟨(some 30), .mv (.t 11), none, []⟩,
   ⟨(some 8), .mv (.d (.bool false)), none, []⟩,
   ⟨(some 9), .mv (.t 30), none, [0, 1, 0, 1]⟩])
 .ret)
 .skip))
(.seq (.reg false [⟨(some 31), .mv (.t 0), none, []⟩,
  ⟨(some 32), .fa 1 (.t 10), none, []⟩,
  ⟨(some 33), .load false 1 (.t 32), none, [1]⟩,
  ⟨(some 34), .fa 1 (.t 12), none, []⟩,
  ⟨(some 35), .load false 1 (.t 34), none, [3]⟩,
  ⟨(some 36), .bin .sub (.t 33) (.t 35), none, [2, 4]⟩,
  ⟨(some 37), .call 49 [(.t 31), (.t 36)], none, [0, 5]⟩,
  ⟨(some 38), .ext (.t 37) 0, none, [6]⟩,
  ⟨(some 39), .ext (.t 37) 1, none, [6]⟩,
  ⟨(some 8), .mv (.t 38), none, [7, 6, 0, 1, 2, 3, 4, 5, 6, 7, 8]⟩,
  ⟨(some 9), .mv (.t 39), none, [8, 9, 0, 1, 2, 3, 4, 5, 6, 7, 8, 9]⟩])
.ret))))))
theorem r_yu_Again : fnOf Tryd.prog n_yu_Again = some (c_yu_Again, [.t 8, .t 9], 40, false) := by kernel_rfl

/-- tallymark/tallymarklaw14.YuSteps -/
abbrev n_Tlaw14_YuSteps : FuncId := 5
def c_Tlaw14_YuSteps : C := (.seq (.reg false [⟨(some 5), .box 40 (.t 2), none, []⟩,
  ⟨(some 6), .mv (.d (.bool false)), none, []⟩])
(.seq (.seq (.reg false [⟨(some 17), .call 9 [], none, []⟩,
  ⟨(some 18), .un .not (.t 17), none, [0]⟩])
(.cond (.t 18)
 (.seq (.reg false [⟨(some 6), .mv (.d (.bool false)), none, []⟩])
 .ret)
 .skip))
(.seq (.reg false [⟨(some 19), .mv (.t 0), none, []⟩,
  ⟨(some 20), .call 16 [(.t 19), (.d (.int .i64 300))], none, [0]⟩,
  ⟨(some 0), .mv (.t 20), none, [1, 1, 0, 1]⟩])
(.seq (.reg false [⟨(some 21), .mv (.t 0), none, []⟩,
  ⟨(some 22), .call 17 [(.t 21)], none, [0]⟩,
  ⟨(some 7), .mv (.t 22), none, [1, 1, 0, 1]⟩])
(.seq (.reg false [⟨(some 24), .mv (.t 7), none, []⟩,
  ⟨(some 25), .mv (.t 1), none, []⟩,
  ⟨(some 26), .ixa 2 1 (.t 5) (.d (.int .i64 0)), none, []⟩,
  ⟨(some 27), .load false 1 (.t 26), none, [2]⟩,
  ⟨(some 28), .call 18 [(.t 24), (.t 25), (.t 27)], none, [0, 1, 3]⟩,
  ⟨(some 23), .mv (.t 28), none, [4]⟩,
  ⟨(some 29), .ext (.t 23) 0, none, [5]⟩,
  ⟨(some 30), .ext (.t 23) 1, none, [5]⟩,
  ⟨(some 8), .mv (.t 29), none, [6, 4, 0, 1, 2, 3, 4, 5, 6]⟩,
  ⟨(some 9), .mv (.t 30), none, [7, 8, 0, 1, 2, 3, 4, 5, 6, 7, 8]⟩])
(.seq (.seq (.reg false [⟨(some 31), .mv (.t 1), none, []⟩,
  ⟨(some 32), .ixa 2 1 (.t 5) (.d (.int .i64 0)), none, []⟩,
  ⟨(some 33), .load false 1 (.t 32), none, [1]⟩,
  ⟨(some 34), .call 19 [(.t 31), (.t 33)], none, [0, 2]⟩,
  ⟨(some 10), .mv (.t 34), none, [3, 3, 0, 1, 2, 3]⟩])
(.seq (.reg false [⟨(some 35), .mv (.t 10), none, []⟩,
  ⟨(some 36), .bin .neq (.t 35) (.d (.int .i64 0)), none, [0]⟩])
(.cond (.t 36)
 (.seq (.reg false [⟨(some 37), .mv (.t 9), none, []⟩,
   ⟨(some 38), .mv (.t 10), none, []⟩,
   ⟨(some 39), .bin .eql (.t 37) (.t 38), none, [0, 1]⟩,
   ⟨(some 40), .mv (.t 39), none, [2]⟩,
   ⟨(some 41), .mv (.t 8), some (40, true), [3]⟩,
   ⟨(some 42), .un .not (.t 41), some (40, true), [4, 3]⟩,
   ⟨(some 43), .pick (.t 40) (.t 42) (.d (.bool false)), none, [3, 5]⟩,
   ⟨(some 44), .mv (.t 43), none, [6, 3]⟩,
   ⟨(some 45), .mv (.t 7), some (44, true), [7]⟩,
   ⟨(some 46), .call 20 [(.t 45)], some (44, true), [8, 7, 7]⟩,
   ⟨(some 47), .bin .eql (.t 46) (.d (.int .i64 0)), some (44, true), [9, 7]⟩,
   ⟨(some 48), .pick (.t 44) (.t 47) (.d (.bool false)), none, [7, 10]⟩,
   ⟨(some 6), .mv (.t 48), none, [11, 9, 0, 1, 2, 3, 4, 5, 6, 7, 8, 9, 10, 11]⟩])
 .ret)
 .skip)))
(.seq (.reg false [⟨(some 50), .mv (.t 1), none, []⟩,
  ⟨(some 51), .ixa 2 1 (.t 5) (.d (.int .i64 0)), none, []⟩,
  ⟨(some 52), .load false 1 (.t 51), none, [1]⟩,
  ⟨(some 53), .call 10 [(.t 50), (.t 52)], none, [0, 2]⟩,
  ⟨(some 49), .mv (.t 53), none, [3]⟩,
  ⟨(some 54), .ext (.t 49) 0, none, [4]⟩,
  ⟨(some 55), .ext (.t 49) 1, none, [4]⟩,
  ⟨(some 11), .new 27 [(.int .i64 0), (.int .i64 0), .nilsl, .nilsl], none, []⟩,
  ⟨none, .store 4 (.t 11) (.t 54), none, [7, 5, 3, 0, 1, 2, 3, 4, 5, 7]⟩,
  ⟨(some 12), .mv (.t 55), none, [6, 8, 0, 1, 2, 3, 4, 5, 6, 7, 8]⟩])
(.seq (.reg false [⟨(some 56), .mv (.t 0), none, []⟩,
  ⟨(some 57), .fa 1 (.t 11), none, []⟩,
  ⟨(some 58), .load false 1 (.t 57), none, [1]⟩,
  ⟨(some 59), .call 21 [(.t 56), (.d (.int .i64 0)), (.t 58)], none, [0, 2]⟩,
  ⟨(some 13), .new 49 [(.bool false), (.int .i64 0), (.int .i64 0)], none, []⟩,
  ⟨none, .store 3 (.t 13) (.t 59), none, [4, 3, 3, 0, 1, 2, 3, 4]⟩])
(.seq (.seq (.reg true [⟨(some 60), .mv (.t 12), none, []⟩,
  ⟨(some 61), .bin .neq (.t 60) (.d (.int .i64 0)), none, [0]⟩,
  ⟨(some 62), .mv (.t 61), none, [1]⟩,
  ⟨(some 63), .mv (.t 8), some (62, false), [2]⟩,
  ⟨(some 64), .fa 0 (.t 13), some (62, false), [2]⟩,
  ⟨(some 65), .load false 1 (.t 64), some (62, false), [4, 2]⟩,
  ⟨(some 66), .beq true (.t 63) (.t 65), some (62, false), [3, 5, 2]⟩,
  ⟨(some 67), .pick (.t 62) (.d (.bool true)) (.t 66), none, [2, 6]⟩,
  ⟨(some 68), .mv (.t 67), none, [7, 2]⟩,
  ⟨(some 69), .mv (.t 9), some (68, false), [8]⟩,
  ⟨(some 70), .fa 2 (.t 13), some (68, false), [8]⟩,
  ⟨(some 71), .load false 1 (.t 70), some (68, false), [10, 8]⟩,
  ⟨(some 72), .bin .neq (.t 69) (.t 71), some (68, false), [9, 11, 8]⟩,
  ⟨(some 73), .pick (.t 68) (.d (.bool true)) (.t 72), none, [8, 12]⟩,
  ⟨(some 74), .mv (.t 73), none, [13, 8]⟩,
  ⟨(some 75), .mv (.t 7), some (74, false), [14]⟩,
  ⟨(some 76), .call 20 [(.t 75)], some (74, false), [15, 14, 14]⟩,
  ⟨(some 77), .fa 1 (.t 13), some (74, false), [14]⟩,
  ⟨(some 78), .load false 1 (.t 77), some (74, false), [17, 14]⟩,
  ⟨(some 79), .bin .neq (.t 76) (.t 78), some (74, false), [16, 18, 14]⟩,
  ⟨(some 80), .pick (.t 74) (.d (.bool true)) (.t 79), none, [14, 19]⟩])
(.cond (.t 80)
 (.seq (.reg false [⟨(some 6), .mv (.d (.bool false)), none, []⟩])
 .ret)
 .skip))
(.seq (.reg false [⟨(some 81), .mv (.t 0), none, []⟩,
  ⟨(some 82), .call 17 [(.t 81)], none, [0]⟩,
  ⟨(some 7), .mv (.t 82), none, [1, 1, 0, 1]⟩])
(.seq (.reg false [⟨(some 84), .mv (.t 7), none, []⟩,
  ⟨(some 85), .mv (.t 1), none, []⟩,
  ⟨(some 86), .ixa 2 1 (.t 5) (.d (.int .i64 0)), none, []⟩,
  ⟨(some 87), .load false 1 (.t 86), none, [2]⟩,
  ⟨(some 88), .ixa 2 1 (.t 5) (.d (.int .i64 1)), none, []⟩,
  ⟨(some 89), .load false 1 (.t 88), none, [4]⟩,
  ⟨(some 90), .call 22 [(.t 84), (.t 85), (.t 87), (.t 89)], none, [0, 1, 3, 5]⟩,
  ⟨(some 83), .mv (.t 90), none, [6]⟩,
  ⟨(some 91), .ext (.t 83) 0, none, [7]⟩,
  ⟨(some 92), .ext (.t 83) 1, none, [7]⟩,
  ⟨(some 8), .mv (.t 91), none, [8, 6, 0, 1, 2, 3, 4, 5, 6, 7, 8]⟩,
  ⟨(some 9), .mv (.t 92), none, [9, 10, 0, 1, 2, 3, 4, 5, 6, 7, 8, 9, 10]⟩])
(.seq (.seq (.reg false [⟨(some 93), .mv (.t 1), none, []⟩,
  ⟨(some 94), .ixa 2 1 (.t 5) (.d (.int .i64 1)), none, []⟩,
  ⟨(some 95), .load false 1 (.t 94), none, [1]⟩,
  ⟨(some 96), .call 19 [(.t 93), (.t 95)], none, [0, 2]⟩,
  ⟨(some 14), .mv (.t 96), none, [3, 3, 0, 1, 2, 3]⟩])
(.seq (.reg false [⟨(some 97), .mv (.t 14), none, []⟩,
  ⟨(some 98), .bin .neq (.t 97) (.d (.int .i64 0)), none, [0]⟩])
(.cond (.t 98)
 (.seq (.reg false [⟨(some 99), .mv (.t 9), none, []⟩,
   ⟨(some 100), .mv (.t 14), none, []⟩,
   ⟨(some 101), .bin .eql (.t 99) (.t 100), none, [0, 1]⟩,
   ⟨(some 102), .mv (.t 101), none, [2]⟩,
   ⟨(some 103), .mv (.t 8), some (102, true), [3]⟩,
   ⟨(some 104), .un .not (.t 103), some (102, true), [4, 3]⟩,
   ⟨(some 105), .pick (.t 102) (.t 104) (.d (.bool false)), none, [3, 5]⟩,
   ⟨(some 106), .mv (.t 105), none, [6, 3]⟩,
   ⟨(some 107), .mv (.t 7), some (106, true), [7]⟩,
   ⟨(some 108), .call 20 [(.t 107)], some (106, true), [8, 7, 7]⟩,
   ⟨(some 109), .bin .eql (.t 108) (.d (.int .i64 0)), some (106, true), [9, 7]⟩,
   ⟨(some 110), .pick (.t 106) (.t 109) (.d (.bool false)), none, [7, 10]⟩,
   ⟨(some 6), .mv (.t 110), none, [11, 9, 0, 1, 2, 3, 4, 5, 6, 7, 8, 9, 10, 11]⟩])
 .ret)
 .skip)))
(.seq (.reg false [⟨(some 112), .mv (.t 1), none, []⟩,
  ⟨(some 113), .ixa 2 1 (.t 5) (.d (.int .i64 1)), none, []⟩,
  ⟨(some 114), .load false 1 (.t 113), none, [1]⟩,
  ⟨(some 115), .call 10 [(.t 112), (.t 114)], none, [0, 2]⟩,
  ⟨(some 111), .mv (.t 115), none, [3]⟩,
  ⟨(some 116), .ext (.t 111) 0, none, [4]⟩,
  ⟨(some 117), .ext (.t 111) 1, none, [4]⟩,
  ⟨(some 15), .new 27 [(.int .i64 0), (.int .i64 0), .nilsl, .nilsl], none, []⟩,
  ⟨none, .store 4 (.t 15) (.t 116), none, [7, 5, 3, 0, 1, 2, 3, 4, 5, 7]⟩,
  ⟨(some 16), .mv (.t 117), none, [6, 8, 0, 1, 2, 3, 4, 5, 6, 7, 8]⟩])
(.seq (.reg false [⟨(some 118), .mv (.t 0), none, []⟩,
  ⟨(some 119), .fa 1 (.t 11), none, []⟩,
  ⟨(some 120), .load false 1 (.t 119), none, [1]⟩,
  ⟨(some 121), .fa 1 (.t 15), none, []⟩,
  ⟨(some 122), .load false 1 (.t 121), none, [3]⟩,
  ⟨(some 123), .bin .sub (.t 120) (.t 122), none, [2, 4]⟩,
  ⟨(some 124), .call 21 [(.t 118), (.d (.int .i64 0)), (.t 123)], none, [0, 5]⟩,
  ⟨none, .store 3 (.t 13) (.t 124), none, [6, 6, 0, 1, 2, 3, 4, 5, 6]⟩])
(.seq (.reg true [⟨(some 125), .mv (.t 16), none, []⟩,
  ⟨(some 126), .bin .eql (.t 125) (.d (.int .i64 0)), none, [0]⟩,
  ⟨(some 127), .mv (.t 126), none, [1]⟩,
  ⟨(some 128), .mv (.t 8), some (127, true), [2]⟩,
  ⟨(some 129), .fa 0 (.t 13), some (127, true), [2]⟩,
  ⟨(some 130), .load false 1 (.t 129), some (127, true), [4, 2]⟩,
  ⟨(some 131), .beq false (.t 128) (.t 130), some (127, true), [3, 5, 2]⟩,
  ⟨(some 132), .pick (.t 127) (.t 131) (.d (.bool false)), none, [2, 6]⟩,
  ⟨(some 133), .mv (.t 132), none, [7, 2]⟩,
  ⟨(some 134), .mv (.t 9), some (133, true), [8]⟩,
  ⟨(some 135), .fa 2 (.t 13), some (133, true), [8]⟩,
  ⟨(some 136), .load false 1 (.t 135), some (133, true), [10, 8]⟩,
  ⟨(some 137), .bin .eql (.t 134) (.t 136), some (133, true), [9, 11, 8]⟩,
  ⟨(some 138), .pick (.t 133) (.t 137) (.d (.bool false)), none, [8, 12]⟩,
  ⟨(some 139), .mv (.t 138), none, [13, 8]⟩,
  ⟨(some 140), .mv (.t 7), some (139, true), [14]⟩,
  ⟨(some 141), .call 20 [(.t 140)], some (139, true), [15, 14, 14]⟩,
  ⟨(some 142), .fa 1 (.t 13), some (139, true), [14]⟩,
  ⟨(some 143), .load false 1 (.t 142), some (139, true), [17, 14]⟩,
  ⟨(some 144), .bin .eql (.t 141) (.t 143), some (139, true), [16, 18, 14]⟩,
  ⟨(some 145), .pick (.t 139) (.t 144) (.d (.bool false)), none, [14, 19]⟩,
  ⟨(some 6), .mv (.t 145), none, [20, 16, 0, 1, 2, 3, 4, 5, 6, 7, 8, 9, 10, 11, 12, 13, 14, 15, 16, 17, 18, 19, 20]⟩])
.ret)))))))))))))))
theorem r_Tlaw14_YuSteps : fnOf Tryd.prog n_Tlaw14_YuSteps = some (c_Tlaw14_YuSteps, [.t 6], 146, false) := by kernel_rfl

/-- tallymark/yu.more -/
abbrev n_yu_more : FuncId := 86
def c_yu_more : C := (.seq (.reg false [⟨(some 3), .box 25 (.t 1), none, []⟩,
  ⟨(some 4), .new 25 [.nilsl], none, []⟩])
(.seq (.reg false [⟨(some 8), .load true 1 (.t 3), none, []⟩,
  ⟨(some 9), .mv (.t 0), none, []⟩,
  ⟨(some 10), .call 98 [(.t 8), (.t 9)], none, [0, 1]⟩,
  ⟨(some 5), .new 25 [.nilsl], none, []⟩,
  ⟨none, .store 1 (.t 5) (.t 10), none, [3, 2, 2, 0, 1, 2, 3]⟩])
(.seq (.seq (.reg false [⟨(some 12), .load true 1 (.t 5), none, []⟩,
  ⟨(some 13), .mv (.t 0), none, []⟩,
  ⟨(some 14), .call 14 [(.t 12), (.t 13)], none, [0, 1]⟩,
  ⟨(some 11), .mv (.t 14), none, [2]⟩,
  ⟨(some 15), .ext (.t 11) 0, none, [3]⟩,
  ⟨(some 16), .ext (.t 11) 1, none, [3]⟩,
  ⟨(some 6), .new 25 [.nilsl], none, []⟩,
  ⟨none, .store 1 (.t 6) (.t 15), none, [6, 4, 2, 0, 1, 2, 3, 4, 6]⟩,
  ⟨(some 7), .mv (.t 16), none, [5, 7, 0, 1, 2, 3, 4, 5, 6, 7]⟩])
(.seq (.reg false [⟨(some 17), .load true 1 (.t 6), none, []⟩,
  ⟨(some 18), .load true 1 (.t 3), none, []⟩,
  ⟨(some 19), .call 11 [(.t 17), (.t 18)], none, [0, 1]⟩,
  ⟨(some 20), .bin .lss (.t 19) (.d (.int .i64 0)), none, [2]⟩])
(.cond (.t 20)
 (.reg true [⟨(some 21), .load true 1 (.t 5), none, []⟩,
   ⟨(some 22), .bsl 34 1 1 [(.int .u64 0)] [(0, 1, (.d (.int .u64 1)))], none, []⟩,
   ⟨(some 23), .call 13 [(.t 22)], none, [1]⟩,
   ⟨(some 24), .call 15 [(.t 21), (.t 23)], none, [0, 2, 2]⟩,
   ⟨none, .store 1 (.t 5) (.t 24), none, [3, 3, 0, 1, 2, 3]⟩])
 .skip)))
(.seq (.reg false [⟨(some 25), .load true 1 (.t 3), none, []⟩,
  ⟨(some 26), .load true 1 (.t 5), none, []⟩,
  ⟨(some 27), .call 15 [(.t 25), (.t 26)], none, [0, 1]⟩,
  ⟨none, .store 1 (.t 4) (.t 27), none, [2, 2, 0, 1, 2]⟩])
.ret))))
theorem r_yu_more : fnOf Tryd.prog n_yu_more = some (c_yu_more, [.cell 4 true 1], 28, false) := by kernel_rfl

/-- (tallymark/nat.Nat).Bits -/
abbrev n_nat_Nat_Bits : FuncId := 99
def c_nat_Nat_Bits : C := (.seq (.reg false [⟨(some 1), .box 25 (.t 0), none, []⟩,
  ⟨(some 2), .mv (.d (.int .i64 0)), none, []⟩])
(.seq (.reg false [⟨(some 4), .fa 0 (.t 1), none, []⟩,
  ⟨(some 5), .load false 1 (.t 4), none, [0]⟩,
  ⟨(some 6), .len (.t 5), none, [1]⟩,
  ⟨(some 3), .mv (.t 6), none, [2, 0, 1, 2]⟩])
(.seq (.seq (.reg false [⟨(some 7), .mv (.t 3), none, []⟩,
  ⟨(some 8), .bin .eql (.t 7) (.d (.int .i64 0)), none, [0]⟩])
(.cond (.t 8)
 (.seq (.reg false [⟨(some 2), .mv (.d (.int .i64 0)), none, []⟩])
 .ret)
 .skip))
(.seq (.reg false [⟨(some 9), .mv (.t 3), none, []⟩,
  ⟨(some 10), .bin .sub (.t 9) (.d (.int .i64 1)), none, [0]⟩,
  ⟨(some 11), .bin .mul (.d (.int .i64 64)) (.t 10), none, [1]⟩,
  ⟨(some 12), .fa 0 (.t 1), none, []⟩,
  ⟨(some 13), .load false 1 (.t 12), none, [3]⟩,
  ⟨(some 14), .mv (.t 3), none, []⟩,
  ⟨(some 15), .bin .sub (.t 14) (.d (.int .i64 1)), none, [5]⟩,
  ⟨(some 16), .ix 1 (.t 13) (.t 15), none, [4, 6]⟩,
  ⟨(some 17), .load false 1 (.t 16), none, [7]⟩,
  ⟨(some 18), .call 100 [(.t 17)], none, [8]⟩,
  ⟨(some 19), .bin .add (.t 11) (.t 18), none, [2, 9]⟩,
  ⟨(some 2), .mv (.t 19), none, [10, 9, 0, 1, 2, 3, 4, 5, 6, 7, 8, 9, 10]⟩])
.ret))))
theorem r_nat_Nat_Bits : fnOf Tryd.prog n_nat_Nat_Bits = some (c_nat_Nat_Bits, [.t 2], 20, false) := by kernel_rfl

/-- tallymark/yu.shift -/
abbrev n_yu_shift : FuncId := 87
def c_yu_shift : C := (.seq (.reg false [⟨(some 3), .box 25 (.t 1), none, []⟩,
  ⟨(some 4), .mv (.d (.int .i64 0)), none, []⟩])
(.seq (.reg false [⟨(some 5), .load true 1 (.t 3), none, []⟩,
  ⟨(some 6), .call 99 [(.t 5)], none, [0]⟩,
  ⟨(some 7), .bin .sub (.t 6) (.d (.int .i64 1)), none, [1]⟩,
  ⟨(some 8), .mv (.t 0), none, []⟩,
  ⟨(some 9), .bin .mul (.d (.int .i64 2)) (.t 8), none, [3]⟩,
  ⟨(some 10), .bin .sub (.t 7) (.t 9), none, [2, 4]⟩,
  ⟨(some 11), .mm true [(.d (.int .i64 0)), (.t 10)], none, [5]⟩,
  ⟨(some 4), .mv (.t 11), none, [6, 1, 0, 1, 2, 3, 4, 5, 6]⟩])
.ret))
theorem r_yu_shift : fnOf Tryd.prog n_yu_shift = some (c_yu_shift, [.t 4], 12, false) := by kernel_rfl

/-- (tallymark/yu.Place).next -/
abbrev n_yu_Place_next : FuncId := 68
def c_yu_Place_next : C := (.seq (.reg false [⟨(some 2), .box 27 (.t 0), none, []⟩,
  ⟨(some 4), .new 27 [(.int .i64 0), (.int .i64 0), .nilsl, .nilsl], none, []⟩])
(.seq (.reg true [⟨(some 8), .bsl 34 1 1 [(.int .u64 0)] [(0, 1, (.d (.int .u64 1)))], none, []⟩,
  ⟨(some 9), .call 13 [(.t 8)], none, [0]⟩,
  ⟨(some 10), .fa 1 (.t 2), none, []⟩,
  ⟨(some 11), .load false 1 (.t 10), none, [2]⟩,
  ⟨(some 12), .call 14 [(.t 9), (.t 11)], none, [1, 3, 1]⟩,
  ⟨(some 7), .mv (.t 12), none, [4]⟩,
  ⟨(some 13), .ext (.t 7) 0, none, [5]⟩,
  ⟨(some 14), .ext (.t 7) 1, none, [5]⟩,
  ⟨(some 5), .new 25 [.nilsl], none, []⟩,
  ⟨none, .store 1 (.t 5) (.t 13), none, [8, 6, 4, 0, 1, 2, 3, 4, 5, 6, 8]⟩,
  ⟨(some 6), .mv (.t 14), none, [7, 9, 0, 1, 2, 3, 4, 5, 6, 7, 8, 9]⟩])
(.seq (.reg false [⟨(some 15), .fa 2 (.t 2), none, []⟩,
  ⟨(some 16), .load true 1 (.t 15), none, [0]⟩,
  ⟨(some 17), .load true 1 (.t 5), none, []⟩,
  ⟨(some 18), .call 15 [(.t 16), (.t 17)], none, [1, 2]⟩,
  ⟨(some 19), .fa 2 (.t 2), none, [0, 1, 2, 3]⟩,
  ⟨none, .store 1 (.t 19) (.t 18), none, [4, 3, 3, 0, 1, 2, 3]⟩])
(.seq (.seq (.reg false [⟨(some 20), .fa 2 (.t 2), none, []⟩,
  ⟨(some 21), .load true 1 (.t 20), none, [0]⟩,
  ⟨(some 22), .fa 3 (.t 2), none, []⟩,
  ⟨(some 23), .load true 1 (.t 22), none, [2]⟩,
  ⟨(some 24), .call 11 [(.t 21), (.t 23)], none, [1, 3]⟩,
  ⟨(some 25), .bin .geq (.t 24) (.d (.int .i64 0)), none, [4]⟩])
(.cond (.t 25)
 (.seq (.reg false [⟨(some 26), .fa 0 (.t 2), none, []⟩,
   ⟨(some 27), .load false 1 (.t 26), none, [0]⟩,
   ⟨(some 28), .bin .add (.t 27) (.d (.int .i64 1)), none, [1]⟩,
   ⟨(some 29), .fa 0 (.t 2), none, [0, 1, 2]⟩,
   ⟨none, .store 1 (.t 29) (.t 28), none, [3, 2, 0, 1, 2]⟩])
 (.seq (.reg false [⟨(some 30), .mv (.t 1), none, []⟩,
   ⟨(some 31), .fa 3 (.t 2), none, []⟩,
   ⟨(some 32), .load true 1 (.t 31), none, [1]⟩,
   ⟨(some 33), .call 86 [(.t 30), (.t 32)], none, [0, 2]⟩,
   ⟨(some 34), .fa 3 (.t 2), none, [0, 1, 2, 3]⟩,
   ⟨none, .store 1 (.t 34) (.t 33), none, [4, 3, 3, 0, 1, 2, 3]⟩])
 (.reg false [⟨(some 35), .mv (.t 1), none, []⟩,
   ⟨(some 36), .fa 3 (.t 2), none, []⟩,
   ⟨(some 37), .load true 1 (.t 36), none, [1]⟩,
   ⟨(some 38), .call 87 [(.t 35), (.t 37)], none, [0, 2]⟩,
   ⟨(some 39), .fa 1 (.t 2), none, [0, 1, 2, 3]⟩,
   ⟨none, .store 1 (.t 39) (.t 38), none, [4, 3, 3, 0, 1, 2, 3]⟩])))
 .skip))
(.seq (.reg false [⟨(some 40), .load true 4 (.t 2), none, []⟩,
  ⟨none, .store 4 (.t 4) (.t 40), none, [0, 0]⟩])
.ret)))))
theorem r_yu_Place_next : fnOf Tryd.prog n_yu_Place_next = some (c_yu_Place_next, [.cell 4 true 4], 41, false) := by kernel_rfl

/-- tallymark/yu.walk$1 -/
abbrev n_yu_walk_1 : FuncId := 67
def c_yu_walk_1 : C := (.seq (.reg false [⟨(some 5), .load false 1 (.t 1), none, []⟩,
  ⟨(some 6), .bin .mul (.d (.int .i64 2)) (.t 5), none, [0]⟩,
  ⟨(some 7), .bin .shl (.d (.int .u64 1)) (.t 6), none, [1]⟩,
  ⟨(some 8), .bsl 34 1 1 [(.int .u64 0)] [(0, 1, (.t 7))], none, [2]⟩,
  ⟨(some 9), .call 13 [(.t 8)], none, [3]⟩,
  ⟨(some 10), .build [(.int .i64 0), (.int .i64 0), .nilsl, .nilsl] [(3, 1, (.t 9))], none, [4]⟩,
  ⟨(some 3), .new 27 [(.int .i64 0), (.int .i64 0), .nilsl, .nilsl], none, []⟩,
  ⟨none, .store 4 (.t 3) (.t 10), none, [6, 5, 4, 0, 1, 2, 3, 4, 5, 6]⟩])
(.seq (.reg false [⟨(some 4), .mv (.d (.int .i64 0)), none, []⟩])
(.block 0 (.loop (.seq (.seq (.reg false [⟨(some 11), .mv (.t 4), none, []⟩,
  ⟨(some 12), .bin .leq (.t 11) (.d (.int .i64 1023)), none, [0]⟩])
(.cond (.t 12)
 .skip
 (.exit 0)))
(.seq (.block 1 (.seq (.seq (.reg false [⟨(some 15), .mv (.t 0), none, []⟩,
  ⟨(some 16), .mv (.t 4), none, []⟩,
  ⟨(some 17), .load true 4 (.t 3), none, []⟩,
  ⟨(some 18), .callv (.t 15) [(.t 16), (.t 17)], none, [0, 1, 2]⟩,
  ⟨(some 19), .un .not (.t 18), none, [3]⟩])
(.cond (.t 19)
 .ret
 .skip))
(.reg false [⟨(some 20), .load true 4 (.t 3), none, []⟩,
  ⟨(some 21), .load false 1 (.t 1), none, []⟩,
  ⟨(some 22), .call 68 [(.t 20), (.t 21)], none, [0, 1]⟩,
  ⟨none, .store 4 (.t 3) (.t 22), none, [2, 2, 0, 1, 2]⟩])))
(.reg false [⟨(some 13), .mv (.t 4), none, []⟩,
  ⟨(some 14), .bin .add (.t 13) (.d (.int .i64 1)), none, [0]⟩,
  ⟨(some 4), .mv (.t 14), none, [1, 0, 1]⟩])))))))
theorem r_yu_walk_1 : fnOf Tryd.prog n_yu_walk_1 = some (c_yu_walk_1, [], 23, false) := by kernel_rfl

/-- tallymark/yu.At -/
abbrev n_yu_At : FuncId := 10
def c_yu_At : C := (.seq (.reg false [⟨(some 3), .box 3 (.t 1), none, []⟩,
  ⟨(some 4), .new 27 [(.int .i64 0), (.int .i64 0), .nilsl, .nilsl], none, []⟩,
  ⟨(some 5), .mv (.d (.int .i64 0)), none, []⟩])
(.seq (.block 0 (.seq (.reg false [⟨(some 10), .mv (.t 0), none, []⟩,
  ⟨(some 11), .call 39 [(.t 10)], none, [0]⟩,
  ⟨(some 12), .un .not (.t 11), none, [1]⟩,
  ⟨(some 9), .mv (.t 12), none, [2, 1]⟩])
(.cond (.t 9)
 (.seq (.reg false [⟨(some 13), .build [(.int .i64 0), (.int .i64 0), .nilsl, .nilsl] [], none, []⟩,
   ⟨none, .store 4 (.t 4) (.t 13), none, [0, 0]⟩,
   ⟨(some 5), .mv (.d (.int .i64 10)), none, [1, 0, 1]⟩])
 .ret)
 (.seq (.reg false [⟨(some 15), .load false 1 (.t 3), none, []⟩,
   ⟨(some 16), .bin .lss (.t 15) (.d (.int .i64 0)), none, [0]⟩,
   ⟨(some 17), .mv (.t 16), none, [1]⟩,
   ⟨(some 18), .load false 1 (.t 3), some (17, false), [2]⟩,
   ⟨(some 19), .bin .gtr (.t 18) (.d (.int .i64 1023)), some (17, false), [3, 2]⟩,
   ⟨(some 20), .pick (.t 17) (.d (.bool true)) (.t 19), none, [2, 4]⟩,
   ⟨(some 14), .mv (.t 20), none, [5, 2]⟩])
 (.cond (.t 14)
  (.seq (.reg false [⟨(some 21), .build [(.int .i64 0), (.int .i64 0), .nilsl, .nilsl] [], none, []⟩,
    ⟨none, .store 4 (.t 4) (.t 21), none, [0, 0]⟩,
    ⟨(some 5), .mv (.d (.int .i64 2)), none, [1, 0, 1]⟩])
  .ret)
  .skip)))))
(.seq (.reg false [⟨(some 6), .new 27 [(.int .i64 0), (.int .i64 0), .nilsl, .nilsl], none, []⟩])
(.seq (.seq (.reg false [⟨(some 22), .mv (.t 0), none, []⟩,
  ⟨(some 23), .call 40 [(.t 22)], none, [0]⟩])
(.block 1 .bad))
(.seq (.reg false [⟨(some 30), .load true 4 (.t 6), none, []⟩,
  ⟨none, .store 4 (.t 4) (.t 30), none, [0, 0]⟩,
  ⟨(some 5), .mv (.d (.int .i64 0)), none, [1, 0, 1]⟩])
.ret)))))
theorem r_yu_At : fnOf Tryd.prog n_yu_At = some (c_yu_At, [.cell 4 true 4, .t 5], 31, false) := by kernel_rfl

end Go.Proofs.YtakjegcjeffmgaaDoor.Am
