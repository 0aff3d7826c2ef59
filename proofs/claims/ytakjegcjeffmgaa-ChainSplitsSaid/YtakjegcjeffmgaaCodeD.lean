import Derived.Test.YtakjegcjeffmgaaAmTri
import Derived.Test.YtakjegcjeffmgaaProg
/- The code of functions, types and places resolved. Written by a program. -/
namespace Go.Proofs.Ytakjegcjeffmgaa.Am
open Go.Proofs.Ytakjegcjeffmgaa.Am
set_option maxRecDepth 100000

theorem mix : Try.prog.follows .mixedOrders = true := by kernel_rfl

abbrev t_int64 : Nat := 2
abbrev t_int : Nat := 3
abbrev t_bool : Nat := 4
abbrev t_uint8 : Nat := 5
abbrev t_abi_BoundsErrorCode : Nat := 6
abbrev t_runtime_boundsError : Nat := 8
abbrev t_string : Nat := 9
abbrev t_runtime_errorString : Nat := 10
abbrev t_runtime_plainError : Nat := 11
abbrev t_uintptr : Nat := 12
abbrev t_runtime_errorAddressString : Nat := 14
abbrev t_maps_unhashableTypeError : Nat := 19
abbrev t_int32 : Nat := 21
abbrev t_Tref17_Param : Nat := 23
abbrev t_Tref17_State : Nat := 28
abbrev t_bits_Writer : Nat := 36
abbrev t_reg_Param : Nat := 39
abbrev t_carray_Array : Nat := 41
abbrev t_reg_State : Nat := 43
abbrev t_api_Errno : Nat := 46
abbrev t_Tref15_Param : Nat := 67
abbrev t_chain_Param : Nat := 71
abbrev t_chain_State : Nat := 75
abbrev t_pack_Vector : Nat := 85
abbrev t_uint64 : Nat := 86
abbrev t_bits_Reader : Nat := 94
abbrev t_uint : Nat := 99
abbrev t_tape_cursor : Nat := 107
abbrev t_tape_Tape : Nat := 109
abbrev t_chain_stepper : Nat := 112
abbrev t_Tref16_Param : Nat := 135
abbrev t_thin_Param : Nat := 140
abbrev t_chain_aMorris : Nat := 145
abbrev t_chain_aFloat : Nat := 146
abbrev t_chain_aYu : Nat := 147
abbrev t_thin_State : Nat := 151
abbrev t_Tref16_State : Nat := 154
abbrev t_uint32 : Nat := 156
abbrev t_runtime_TypeAssertionError : Nat := 160
abbrev t_runtime_PanicNilError : Nat := 163
abbrev t_abi_TFlag : Nat := 164
abbrev t_abi_Kind : Nat := 165
abbrev t_abi_NameOff : Nat := 168
abbrev t_abi_TypeOff : Nat := 169
abbrev t_abi_Type : Nat := 171
abbrev t_nat_Nat : Nat := 178
abbrev t_yu_Place : Nat := 192
abbrev t_unsafe_Pointer : Nat := 204
abbrev t_whole_Whole : Nat := 206
abbrev t_rat_Rat : Nat := 208

/-- tallymark/float.Good -/
abbrev n_float_Good : FuncId := 133
def c_float_Good : C := (.seq (.reg false [⟨(some 2), .mv (.d (.bool false)), none, []⟩])
(.seq (.reg false [⟨(some 3), .mv (.t 0), none, []⟩,
  ⟨(some 4), .bin .geq (.t 3) (.d (.int .i64 0)), none, [0]⟩,
  ⟨(some 5), .mv (.t 4), none, [1]⟩,
  ⟨(some 6), .mv (.t 0), some (5, true), [2]⟩,
  ⟨(some 7), .bin .leq (.t 6) (.d (.int .i64 8)), some (5, true), [3, 2]⟩,
  ⟨(some 8), .pick (.t 5) (.t 7) (.d (.bool false)), none, [2, 4]⟩,
  ⟨(some 2), .mv (.t 8), none, [5, 2, 0, 1, 2, 3, 4, 5]⟩])
.ret))
theorem r_float_Good : fnOf Try.prog n_float_Good = some (c_float_Good, [.t 2], 9, false) := by kernel_rfl

/-- tallymark/float.wrong -/
abbrev n_float_wrong : FuncId := 135
def c_float_wrong : C := (.seq (.reg false [⟨(some 4), .mv (.d (.int .i64 0)), none, []⟩])
(.seq (.seq (.reg false [⟨(some 7), .mv (.t 0), none, []⟩,
  ⟨(some 8), .call 133 [(.t 7)], none, [0]⟩,
  ⟨(some 9), .un .not (.t 8), none, [1]⟩])
(.cond (.t 9)
 (.seq (.reg false [⟨(some 4), .mv (.d (.int .i64 10)), none, []⟩])
 .ret)
 .skip))
(.seq (.seq (.reg false [⟨(some 10), .mv (.t 1), none, []⟩,
  ⟨(some 11), .len (.t 10), none, [0]⟩,
  ⟨(some 12), .mv (.d (.int .i64 0)), none, []⟩])
(.block 0 (.loop (.seq (.reg false [⟨(some 13), .bin .lss (.t 12) (.t 11), none, []⟩])
(.seq (.cond (.t 13)
 .skip
 (.exit 0))
(.seq (.block 1 (.seq (.reg false [⟨(some 14), .ix 1 (.t 10) (.t 12), none, []⟩,
  ⟨(some 15), .load false 1 (.t 14), none, [0]⟩,
  ⟨(some 6), .mv (.t 15), none, [1, 0, 1]⟩])
(.seq (.reg false [⟨(some 16), .mv (.t 6), none, []⟩,
  ⟨(some 17), .bin .lss (.t 16) (.d (.int .i64 0)), none, [0]⟩,
  ⟨(some 18), .mv (.t 17), none, [1]⟩,
  ⟨(some 19), .mv (.t 6), some (18, false), [2]⟩,
  ⟨(some 20), .bin .gtr (.t 19) (.d (.int .i64 1023)), some (18, false), [3, 2]⟩,
  ⟨(some 21), .pick (.t 18) (.d (.bool true)) (.t 20), none, [2, 4]⟩])
(.cond (.t 21)
 (.seq (.reg false [⟨(some 4), .mv (.d (.int .i64 2)), none, []⟩])
 .ret)
 .skip))))
(.reg false [⟨(some 22), .bin .add (.t 12) (.d (.int .i64 1)), none, []⟩,
  ⟨(some 12), .mv (.t 22), none, [0]⟩])))))))
(.seq (.reg false [⟨(some 4), .mv (.d (.int .i64 0)), none, []⟩])
.ret))))
theorem r_float_wrong : fnOf Try.prog n_float_wrong = some (c_float_wrong, [.t 4], 23, false) := by kernel_rfl

/-- tallymark/float.parts -/
abbrev n_float_parts : FuncId := 136
def c_float_parts : C := (.seq (.reg false [⟨(some 4), .mv (.d (.int .i64 0)), none, []⟩,
  ⟨(some 5), .mv (.d (.int .i64 0)), none, [0]⟩])
(.seq (.reg true [⟨(some 6), .mv (.t 1), none, []⟩,
  ⟨(some 7), .mv (.t 0), none, []⟩,
  ⟨(some 8), .bin .shr (.t 6) (.t 7), none, [0, 1]⟩,
  ⟨(some 9), .mv (.t 1), none, []⟩,
  ⟨(some 10), .mv (.t 0), none, []⟩,
  ⟨(some 11), .bin .shl (.d (.int .i64 1)) (.t 10), none, [4]⟩,
  ⟨(some 12), .bin .sub (.t 11) (.d (.int .i64 1)), none, [5]⟩,
  ⟨(some 13), .bin .and (.t 9) (.t 12), none, [3, 6]⟩,
  ⟨(some 4), .mv (.t 8), none, [2, 0, 1, 2]⟩,
  ⟨(some 5), .mv (.t 13), none, [7, 8, 0, 1, 2, 3, 4, 5, 6, 7, 8]⟩])
.ret))
theorem r_float_parts : fnOf Try.prog n_float_parts = some (c_float_parts, [.t 4, .t 5], 14, false) := by kernel_rfl

/-- slices.Clone[[]uint64,uint64] -/
abbrev n_slices_Clone_uint64_uint64 : FuncId := 119
def c_slices_Clone_uint64_uint64 : C := (.seq (.reg false [⟨(some 2), .mv (.d .nilsl), none, []⟩])
(.seq (.seq (.reg false [⟨(some 3), .mv (.t 0), none, []⟩,
  ⟨(some 4), .snl false (.t 3), none, [0]⟩])
(.cond (.t 4)
 (.seq (.reg false [⟨(some 2), .mv (.d .nilsl), none, []⟩])
 .ret)
 .skip))
(.seq (.reg false [⟨(some 5), .bsl0, none, []⟩,
  ⟨(some 6), .mv (.t 0), none, []⟩,
  ⟨(some 7), .app 86 1 8 (.t 5) (.t 6), none, [0, 1]⟩,
  ⟨(some 2), .mv (.t 7), none, [2, 2, 0, 1, 2]⟩])
.ret)))
theorem r_slices_Clone_uint64_uint64 : fnOf Try.prog n_slices_Clone_uint64_uint64 = some (c_slices_Clone_uint64_uint64, [.t 2], 8, false) := by kernel_rfl

/-- tallymark/nat.trimmed -/
abbrev n_nat_trimmed : FuncId := 118
def c_nat_trimmed : C := (.seq (.reg false [⟨(some 2), .new 178 [.nilsl], none, []⟩])
(.seq (.reg false [⟨(some 4), .mv (.t 0), none, []⟩,
  ⟨(some 5), .len (.t 4), none, [0]⟩,
  ⟨(some 3), .mv (.t 5), none, [1, 0, 1]⟩])
(.seq (.block 0 (.loop (.seq (.seq (.reg false [⟨(some 6), .mv (.t 3), none, []⟩,
  ⟨(some 7), .bin .gtr (.t 6) (.d (.int .i64 0)), none, [0]⟩,
  ⟨(some 8), .mv (.t 7), none, [1]⟩,
  ⟨(some 9), .mv (.t 0), some (8, true), [2]⟩,
  ⟨(some 10), .mv (.t 3), some (8, true), [2]⟩,
  ⟨(some 11), .bin .sub (.t 10) (.d (.int .i64 1)), some (8, true), [4, 2]⟩,
  ⟨(some 12), .ix 1 (.t 9) (.t 11), some (8, true), [3, 5, 2]⟩,
  ⟨(some 13), .load false 1 (.t 12), some (8, true), [6, 2]⟩,
  ⟨(some 14), .bin .eql (.t 13) (.d (.int .u64 0)), some (8, true), [7, 2]⟩,
  ⟨(some 15), .pick (.t 8) (.t 14) (.d (.bool false)), none, [2, 8]⟩])
(.cond (.t 15)
 .skip
 (.exit 0)))
(.block 1 (.reg false [⟨(some 16), .mv (.t 3), none, []⟩,
  ⟨(some 17), .bin .sub (.t 16) (.d (.int .i64 1)), none, [0]⟩,
  ⟨(some 3), .mv (.t 17), none, [1, 0, 1]⟩])))))
(.seq (.reg false [⟨(some 18), .mv (.t 0), none, []⟩,
  ⟨(some 19), .mv (.t 3), none, []⟩,
  ⟨(some 20), .slice 1 (.t 18) none (some (.t 19)) none, none, [0, 1]⟩,
  ⟨(some 21), .build [.nilsl] [(0, 1, (.t 20))], none, [2]⟩,
  ⟨none, .store 1 (.t 2) (.t 21), none, [3, 0, 1, 2, 3]⟩])
.ret))))
theorem r_nat_trimmed : fnOf Try.prog n_nat_trimmed = some (c_nat_trimmed, [.cell 2 true 1], 22, false) := by kernel_rfl

/-- tallymark/nat.Of -/
abbrev n_nat_Of : FuncId := 115
def c_nat_Of : C := (.seq (.reg false [⟨(some 2), .new 178 [.nilsl], none, []⟩])
(.seq (.reg false [⟨(some 3), .mv (.t 0), none, []⟩,
  ⟨(some 4), .call 119 [(.t 3)], none, [0]⟩,
  ⟨(some 5), .call 118 [(.t 4)], none, [1, 1]⟩,
  ⟨none, .store 1 (.t 2) (.t 5), none, [2, 2, 0, 1, 2]⟩])
.ret))
theorem r_nat_Of : fnOf Try.prog n_nat_Of = some (c_nat_Of, [.cell 2 true 1], 6, false) := by kernel_rfl

/-- tallymark/nat.moved -/
abbrev n_nat_moved : FuncId := 153
def c_nat_moved : C := (.seq (.reg false [⟨(some 4), .mv (.d .nilsl), none, []⟩])
(.seq (.reg false [⟨(some 8), .mv (.t 0), none, []⟩,
  ⟨(some 9), .len (.t 8), none, [0]⟩,
  ⟨(some 10), .bin .add (.t 9) (.d (.int .i64 1)), none, [1]⟩,
  ⟨(some 11), .mksl 86 1 8 [(.int .u64 0)] (.t 10) (.t 10), none, [2, 2]⟩,
  ⟨(some 5), .mv (.t 11), none, [3, 0, 1, 2, 3]⟩])
(.seq (.seq (.reg false [⟨(some 12), .mv (.t 0), none, []⟩,
  ⟨(some 13), .len (.t 12), none, [0]⟩,
  ⟨(some 14), .mv (.d (.int .i64 0)), none, []⟩])
(.block 0 (.loop (.seq (.reg false [⟨(some 15), .bin .lss (.t 14) (.t 13), none, []⟩])
(.seq (.cond (.t 15)
 .skip
 (.exit 0))
(.seq (.block 1 (.seq (.reg false [⟨(some 16), .mv (.t 14), none, []⟩,
  ⟨(some 17), .ix 1 (.t 12) (.t 14), none, []⟩,
  ⟨(some 18), .load false 1 (.t 17), none, [1]⟩,
  ⟨(some 6), .mv (.t 16), none, [0, 0, 1, 2]⟩,
  ⟨(some 7), .mv (.t 18), none, [2, 3, 0, 1, 2, 3]⟩])
(.seq (.reg true [⟨(some 19), .mv (.t 5), none, []⟩,
  ⟨(some 20), .mv (.t 6), none, []⟩,
  ⟨(some 21), .ix 1 (.t 19) (.t 20), none, [0, 1]⟩,
  ⟨(some 22), .load false 1 (.t 21), none, [2]⟩,
  ⟨(some 23), .mv (.t 7), none, []⟩,
  ⟨(some 24), .mv (.t 1), none, []⟩,
  ⟨(some 25), .bin .shl (.t 23) (.t 24), none, [4, 5]⟩,
  ⟨(some 26), .bin .or (.t 22) (.t 25), none, [3, 6]⟩,
  ⟨(some 27), .ix 1 (.t 19) (.t 20), none, [0, 1, 0, 1, 2, 3, 4, 5, 6, 7]⟩,
  ⟨none, .store 1 (.t 27) (.t 26), none, [8, 7, 0, 1, 2, 3, 4, 5, 6, 7]⟩])
(.reg false [⟨(some 28), .mv (.t 5), none, []⟩,
  ⟨(some 29), .mv (.t 6), none, []⟩,
  ⟨(some 30), .bin .add (.t 29) (.d (.int .i64 1)), none, [1]⟩,
  ⟨(some 31), .mv (.t 7), none, []⟩,
  ⟨(some 32), .mv (.t 1), none, []⟩,
  ⟨(some 33), .bin .sub (.d (.int .i64 64)) (.t 32), none, [4]⟩,
  ⟨(some 34), .bin .shr (.t 31) (.t 33), none, [3, 5]⟩,
  ⟨(some 35), .ix 1 (.t 28) (.t 30), none, [0, 2, 0, 1, 2, 3, 4, 5, 6]⟩,
  ⟨none, .store 1 (.t 35) (.t 34), none, [7, 6, 0, 1, 2, 3, 4, 5, 6]⟩]))))
(.reg false [⟨(some 36), .bin .add (.t 14) (.d (.int .i64 1)), none, []⟩,
  ⟨(some 14), .mv (.t 36), none, [0]⟩])))))))
(.seq (.reg false [⟨(some 37), .mv (.t 5), none, []⟩,
  ⟨(some 4), .mv (.t 37), none, [0, 0]⟩])
.ret))))
theorem r_nat_moved : fnOf Try.prog n_nat_moved = some (c_nat_moved, [.t 4], 38, false) := by kernel_rfl

/-- tallymark/nat.Shl -/
abbrev n_nat_Shl : FuncId := 150
def c_nat_Shl : C := (.seq (.reg false [⟨(some 2), .box 178 (.t 0), none, []⟩,
  ⟨(some 4), .new 178 [.nilsl], none, []⟩,
  ⟨(some 5), .mv (.d (.int .i64 0)), none, []⟩])
(.seq (.seq (.reg false [⟨(some 6), .mv (.t 1), none, []⟩,
  ⟨(some 7), .bin .lss (.t 6) (.d (.int .i64 0)), none, [0]⟩,
  ⟨(some 8), .mv (.t 7), none, [1]⟩,
  ⟨(some 9), .mv (.t 1), some (8, false), [2]⟩,
  ⟨(some 10), .bin .gtr (.t 9) (.d (.int .i64 8192)), some (8, false), [3, 2]⟩,
  ⟨(some 11), .pick (.t 8) (.d (.bool true)) (.t 10), none, [2, 4]⟩])
(.cond (.t 11)
 (.seq (.reg false [⟨(some 12), .build [.nilsl] [], none, []⟩,
   ⟨none, .store 1 (.t 4) (.t 12), none, [0, 0]⟩,
   ⟨(some 5), .mv (.d (.int .i64 2)), none, [1, 0, 1]⟩])
 .ret)
 .skip))
(.seq (.reg true [⟨(some 13), .mv (.t 1), none, []⟩,
  ⟨(some 14), .bin .quo (.t 13) (.d (.int .i64 64)), none, [0]⟩,
  ⟨(some 15), .mksl 86 1 8 [(.int .u64 0)] (.t 14) (.t 14), none, [1, 1]⟩,
  ⟨(some 16), .fa 0 (.t 2), none, []⟩,
  ⟨(some 17), .load false 1 (.t 16), none, [3]⟩,
  ⟨(some 18), .mv (.t 1), none, []⟩,
  ⟨(some 19), .bin .rem (.t 18) (.d (.int .i64 64)), none, [5]⟩,
  ⟨(some 20), .call 153 [(.t 17), (.t 19)], none, [4, 6]⟩,
  ⟨(some 21), .app 86 1 8 (.t 15) (.t 20), none, [2, 7, 7]⟩,
  ⟨(some 22), .call 118 [(.t 21)], none, [8, 8]⟩,
  ⟨none, .store 1 (.t 4) (.t 22), none, [9, 9, 0, 1, 2, 3, 4, 5, 6, 7, 8, 9]⟩,
  ⟨(some 5), .mv (.d (.int .i64 0)), none, [10, 0, 1, 2, 3, 4, 5, 6, 7, 8, 9, 10]⟩])
.ret)))
theorem r_nat_Shl : fnOf Try.prog n_nat_Shl = some (c_nat_Shl, [.cell 4 true 1, .t 5], 23, false) := by kernel_rfl

/-- tallymark/nat.Cmp -/
abbrev n_nat_Cmp : FuncId := 121
def c_nat_Cmp : C := (.seq (.reg false [⟨(some 2), .box 178 (.t 0), none, []⟩,
  ⟨(some 3), .box 178 (.t 1), none, []⟩,
  ⟨(some 4), .mv (.d (.int .i64 0)), none, []⟩])
(.seq (.seq (.reg false [⟨(some 9), .fa 0 (.t 2), none, []⟩,
  ⟨(some 10), .load false 1 (.t 9), none, [0]⟩,
  ⟨(some 11), .len (.t 10), none, [1]⟩,
  ⟨(some 12), .fa 0 (.t 3), none, []⟩,
  ⟨(some 13), .load false 1 (.t 12), none, [3]⟩,
  ⟨(some 14), .len (.t 13), none, [4]⟩,
  ⟨(some 15), .bin .sub (.t 11) (.t 14), none, [2, 5]⟩,
  ⟨(some 5), .mv (.t 15), none, [6, 0, 1, 2, 3, 4, 5, 6]⟩])
(.seq (.reg false [⟨(some 16), .mv (.t 5), none, []⟩,
  ⟨(some 17), .bin .neq (.t 16) (.d (.int .i64 0)), none, [0]⟩])
(.cond (.t 17)
 (.seq (.reg false [⟨(some 18), .mv (.t 5), none, []⟩,
   ⟨(some 19), .mm false [(.t 18), (.d (.int .i64 1))], none, [0]⟩,
   ⟨(some 20), .mm true [(.d (.int .i64 (-1))), (.t 19)], none, [1]⟩,
   ⟨(some 4), .mv (.t 20), none, [2, 0, 1, 2]⟩])
 .ret)
 .skip)))
(.seq (.seq (.reg false [⟨(some 21), .fa 0 (.t 2), none, []⟩,
  ⟨(some 22), .load false 1 (.t 21), none, [0]⟩,
  ⟨(some 23), .len (.t 22), none, [1]⟩,
  ⟨(some 24), .bin .sub (.t 23) (.d (.int .i64 1)), none, [2]⟩,
  ⟨(some 6), .mv (.t 24), none, [3, 0, 1, 2, 3]⟩])
(.block 0 (.loop (.seq (.seq (.reg false [⟨(some 25), .mv (.t 6), none, []⟩,
  ⟨(some 26), .bin .geq (.t 25) (.d (.int .i64 0)), none, [0]⟩])
(.cond (.t 26)
 .skip
 (.exit 0)))
(.seq (.block 1 (.seq (.reg true [⟨(some 29), .fa 0 (.t 2), none, []⟩,
  ⟨(some 30), .load false 1 (.t 29), none, [0]⟩,
  ⟨(some 31), .mv (.t 6), none, []⟩,
  ⟨(some 32), .ix 1 (.t 30) (.t 31), none, [1, 2]⟩,
  ⟨(some 33), .load false 1 (.t 32), none, [3]⟩,
  ⟨(some 34), .fa 0 (.t 3), none, []⟩,
  ⟨(some 35), .load false 1 (.t 34), none, [5]⟩,
  ⟨(some 36), .mv (.t 6), none, []⟩,
  ⟨(some 37), .ix 1 (.t 35) (.t 36), none, [6, 7]⟩,
  ⟨(some 38), .load false 1 (.t 37), none, [8]⟩,
  ⟨(some 7), .mv (.t 33), none, [4, 0, 1, 2, 3, 4]⟩,
  ⟨(some 8), .mv (.t 38), none, [9, 10, 0, 1, 2, 3, 4, 5, 6, 7, 8, 9, 10]⟩])
(.block 2 (.seq (.reg false [⟨(some 40), .mv (.t 7), none, []⟩,
  ⟨(some 41), .mv (.t 8), none, []⟩,
  ⟨(some 42), .bin .lss (.t 40) (.t 41), none, [0, 1]⟩,
  ⟨(some 39), .mv (.t 42), none, [2]⟩])
(.cond (.t 39)
 (.seq (.reg false [⟨(some 4), .mv (.d (.int .i64 (-1))), none, []⟩])
 .ret)
 (.seq (.reg false [⟨(some 44), .mv (.t 7), none, []⟩,
   ⟨(some 45), .mv (.t 8), none, []⟩,
   ⟨(some 46), .bin .gtr (.t 44) (.t 45), none, [0, 1]⟩,
   ⟨(some 43), .mv (.t 46), none, [2]⟩])
 (.cond (.t 43)
  (.seq (.reg false [⟨(some 4), .mv (.d (.int .i64 1)), none, []⟩])
  .ret)
  .skip)))))))
(.reg false [⟨(some 27), .mv (.t 6), none, []⟩,
  ⟨(some 28), .bin .sub (.t 27) (.d (.int .i64 1)), none, [0]⟩,
  ⟨(some 6), .mv (.t 28), none, [1, 0, 1]⟩]))))))
(.seq (.reg false [⟨(some 4), .mv (.d (.int .i64 0)), none, []⟩])
.ret))))
theorem r_nat_Cmp : fnOf Try.prog n_nat_Cmp = some (c_nat_Cmp, [.t 4], 47, false) := by kernel_rfl

/-- math/bits.Sub64 -/
abbrev n_math_bits_Sub64 : FuncId := 126
theorem x_math_bits_Sub64 : Try.prog.funcs[n_math_bits_Sub64]? = some Try.f126 := Try.func126
/-- tallymark/nat.Sub -/
abbrev n_nat_Sub : FuncId := 124
def c_nat_Sub : C := (.seq (.reg false [⟨(some 2), .box 178 (.t 0), none, []⟩,
  ⟨(some 3), .box 178 (.t 1), none, []⟩,
  ⟨(some 4), .new 178 [.nilsl], none, []⟩,
  ⟨(some 5), .mv (.d (.int .i64 0)), none, []⟩])
(.seq (.seq (.reg false [⟨(some 11), .load true 1 (.t 2), none, []⟩,
  ⟨(some 12), .load true 1 (.t 3), none, []⟩,
  ⟨(some 13), .call 121 [(.t 11), (.t 12)], none, [0, 1]⟩,
  ⟨(some 14), .bin .lss (.t 13) (.d (.int .i64 0)), none, [2]⟩])
(.cond (.t 14)
 (.seq (.reg false [⟨(some 15), .build [.nilsl] [], none, []⟩,
   ⟨none, .store 1 (.t 4) (.t 15), none, [0, 0]⟩,
   ⟨(some 5), .mv (.d (.int .i64 2)), none, [1, 0, 1]⟩])
 .ret)
 .skip))
(.seq (.reg false [⟨(some 16), .fa 0 (.t 2), none, []⟩,
  ⟨(some 17), .load false 1 (.t 16), none, [0]⟩,
  ⟨(some 18), .len (.t 17), none, [1]⟩,
  ⟨(some 19), .mksl 86 1 8 [(.int .u64 0)] (.t 18) (.t 18), none, [2, 2]⟩,
  ⟨(some 6), .mv (.t 19), none, [3, 0, 1, 2, 3]⟩])
(.seq (.reg false [⟨(some 7), .mv (.d (.int .u64 0)), none, []⟩])
(.seq (.seq (.reg false [⟨(some 20), .fa 0 (.t 2), none, []⟩,
  ⟨(some 21), .load false 1 (.t 20), none, [0]⟩,
  ⟨(some 22), .len (.t 21), none, [1]⟩,
  ⟨(some 23), .mv (.d (.int .i64 0)), none, []⟩])
(.block 0 (.loop (.seq (.reg false [⟨(some 24), .bin .lss (.t 23) (.t 22), none, []⟩])
(.seq (.cond (.t 24)
 .skip
 (.exit 0))
(.seq (.block 1 (.seq (.reg false [⟨(some 25), .mv (.t 23), none, []⟩,
  ⟨(some 26), .ix 1 (.t 21) (.t 23), none, []⟩,
  ⟨(some 27), .load false 1 (.t 26), none, [1]⟩,
  ⟨(some 8), .mv (.t 25), none, [0, 0, 1, 2]⟩,
  ⟨(some 9), .mv (.t 27), none, [2, 3, 0, 1, 2, 3]⟩])
(.seq (.reg false [⟨(some 10), .mv (.d (.int .u64 0)), none, []⟩])
(.seq (.seq (.reg false [⟨(some 28), .mv (.t 8), none, []⟩,
  ⟨(some 29), .fa 0 (.t 3), none, []⟩,
  ⟨(some 30), .load false 1 (.t 29), none, [1]⟩,
  ⟨(some 31), .len (.t 30), none, [2]⟩,
  ⟨(some 32), .bin .lss (.t 28) (.t 31), none, [0, 3]⟩])
(.cond (.t 32)
 (.reg false [⟨(some 33), .fa 0 (.t 3), none, []⟩,
   ⟨(some 34), .load false 1 (.t 33), none, [0]⟩,
   ⟨(some 35), .mv (.t 8), none, []⟩,
   ⟨(some 36), .ix 1 (.t 34) (.t 35), none, [1, 2]⟩,
   ⟨(some 37), .load false 1 (.t 36), none, [3]⟩,
   ⟨(some 10), .mv (.t 37), none, [4, 0, 1, 2, 3, 4]⟩])
 .skip))
(.reg false [⟨(some 39), .mv (.t 6), none, []⟩,
  ⟨(some 40), .mv (.t 8), none, []⟩,
  ⟨(some 41), .mv (.t 9), none, []⟩,
  ⟨(some 42), .mv (.t 10), none, []⟩,
  ⟨(some 43), .mv (.t 7), none, []⟩,
  ⟨(some 44), .call 126 [(.t 41), (.t 42), (.t 43)], none, [2, 3, 4]⟩,
  ⟨(some 38), .mv (.t 44), none, [5]⟩,
  ⟨(some 45), .ext (.t 38) 0, none, [6]⟩,
  ⟨(some 46), .ext (.t 38) 1, none, [6]⟩,
  ⟨(some 47), .ix 1 (.t 39) (.t 40), none, [0, 1, 0, 1, 2, 3, 4, 5, 6, 7]⟩,
  ⟨none, .store 1 (.t 47) (.t 45), none, [9, 7, 5, 0, 1, 2, 3, 4, 5, 6, 7]⟩,
  ⟨(some 7), .mv (.t 46), none, [8, 10, 0, 1, 2, 3, 4, 5, 6, 7, 8, 9, 10]⟩])))))
(.reg false [⟨(some 48), .bin .add (.t 23) (.d (.int .i64 1)), none, []⟩,
  ⟨(some 23), .mv (.t 48), none, [0]⟩])))))))
(.seq (.reg false [⟨(some 49), .mv (.t 6), none, []⟩,
  ⟨(some 50), .call 118 [(.t 49)], none, [0]⟩,
  ⟨none, .store 1 (.t 4) (.t 50), none, [1, 1, 0, 1]⟩,
  ⟨(some 5), .mv (.d (.int .i64 0)), none, [2, 0, 1, 2]⟩])
.ret))))))
theorem r_nat_Sub : fnOf Try.prog n_nat_Sub = some (c_nat_Sub, [.cell 4 true 1, .t 5], 51, false) := by kernel_rfl

/-- (tallymark/nat.Nat).Zero -/
abbrev n_nat_Nat_Zero : FuncId := 120
def c_nat_Nat_Zero : C := (.seq (.reg false [⟨(some 1), .box 178 (.t 0), none, []⟩,
  ⟨(some 2), .mv (.d (.bool false)), none, []⟩])
(.seq (.reg false [⟨(some 3), .fa 0 (.t 1), none, []⟩,
  ⟨(some 4), .load false 1 (.t 3), none, [0]⟩,
  ⟨(some 5), .len (.t 4), none, [1]⟩,
  ⟨(some 6), .bin .eql (.t 5) (.d (.int .i64 0)), none, [2]⟩,
  ⟨(some 2), .mv (.t 6), none, [3, 0, 1, 2, 3]⟩])
.ret))
theorem r_nat_Nat_Zero : fnOf Try.prog n_nat_Nat_Zero = some (c_nat_Nat_Zero, [.t 2], 7, false) := by kernel_rfl

/-- math/bits.Len64 -/
abbrev n_math_bits_Len64 : FuncId := 86
def c_math_bits_Len64 : C := (.seq (.reg false [⟨(some 2), .mv (.d (.int .i64 0)), none, []⟩])
(.seq (.seq (.reg false [⟨(some 3), .mv (.t 0), none, []⟩,
  ⟨(some 4), .bin .geq (.t 3) (.d (.int .u64 4294967296)), none, [0]⟩])
(.cond (.t 4)
 (.seq (.reg false [⟨(some 5), .mv (.t 0), none, []⟩,
   ⟨(some 6), .bin .shr (.t 5) (.d (.int .u64 32)), none, [0]⟩,
   ⟨(some 0), .mv (.t 6), none, [1, 0, 1]⟩])
 (.reg false [⟨(some 2), .mv (.d (.int .i64 32)), none, []⟩]))
 .skip))
(.seq (.seq (.reg false [⟨(some 7), .mv (.t 0), none, []⟩,
  ⟨(some 8), .bin .geq (.t 7) (.d (.int .u64 65536)), none, [0]⟩])
(.cond (.t 8)
 (.seq (.reg false [⟨(some 9), .mv (.t 0), none, []⟩,
   ⟨(some 10), .bin .shr (.t 9) (.d (.int .u64 16)), none, [0]⟩,
   ⟨(some 0), .mv (.t 10), none, [1, 0, 1]⟩])
 (.reg false [⟨(some 11), .mv (.t 2), none, []⟩,
   ⟨(some 12), .bin .add (.t 11) (.d (.int .i64 16)), none, [0]⟩,
   ⟨(some 2), .mv (.t 12), none, [1, 0, 1]⟩]))
 .skip))
(.seq (.seq (.reg false [⟨(some 13), .mv (.t 0), none, []⟩,
  ⟨(some 14), .bin .geq (.t 13) (.d (.int .u64 256)), none, [0]⟩])
(.cond (.t 14)
 (.seq (.reg false [⟨(some 15), .mv (.t 0), none, []⟩,
   ⟨(some 16), .bin .shr (.t 15) (.d (.int .u64 8)), none, [0]⟩,
   ⟨(some 0), .mv (.t 16), none, [1, 0, 1]⟩])
 (.reg false [⟨(some 17), .mv (.t 2), none, []⟩,
   ⟨(some 18), .bin .add (.t 17) (.d (.int .i64 8)), none, [0]⟩,
   ⟨(some 2), .mv (.t 18), none, [1, 0, 1]⟩]))
 .skip))
(.seq (.reg false [⟨(some 19), .mv (.t 2), none, []⟩,
  ⟨(some 20), .mv (.t 0), none, []⟩,
  ⟨(some 21), .conv .u8 (.t 20), none, [1]⟩,
  ⟨(some 22), .gstr (.d (.str ⟨#[0, 1, 2, 2, 3, 3, 3, 3, 4, 4, 4, 4, 4, 4, 4, 4, 5, 5, 5, 5, 5, 5, 5, 5, 5, 5, 5, 5, 5, 5, 5, 5, 6, 6, 6, 6, 6, 6, 6, 6, 6, 6, 6, 6, 6, 6, 6, 6, 6, 6, 6, 6, 6, 6, 6, 6, 6, 6, 6, 6, 6, 6, 6, 6, 7, 7, 7, 7, 7, 7, 7, 7, 7, 7, 7, 7, 7, 7, 7, 7, 7, 7, 7, 7, 7, 7, 7, 7, 7, 7, 7, 7, 7, 7, 7, 7, 7, 7, 7, 7, 7, 7, 7, 7, 7, 7, 7, 7, 7, 7, 7, 7, 7, 7, 7, 7, 7, 7, 7, 7, 7, 7, 7, 7, 7, 7, 7, 7, 8, 8, 8, 8, 8, 8, 8, 8, 8, 8, 8, 8, 8, 8, 8, 8, 8, 8, 8, 8, 8, 8, 8, 8, 8, 8, 8, 8, 8, 8, 8, 8, 8, 8, 8, 8, 8, 8, 8, 8, 8, 8, 8, 8, 8, 8, 8, 8, 8, 8, 8, 8, 8, 8, 8, 8, 8, 8, 8, 8, 8, 8, 8, 8, 8, 8, 8, 8, 8, 8, 8, 8, 8, 8, 8, 8, 8, 8, 8, 8, 8, 8, 8, 8, 8, 8, 8, 8, 8, 8, 8, 8, 8, 8, 8, 8, 8, 8, 8, 8, 8, 8, 8, 8, 8, 8, 8, 8, 8, 8, 8, 8, 8, 8, 8, 8, 8, 8, 8, 8, 8, 8, 8, 8, 8, 8, 8, 8]⟩)) (.t 21), none, [2]⟩,
  ⟨(some 23), .conv .i64 (.t 22), none, [3]⟩,
  ⟨(some 24), .bin .add (.t 19) (.t 23), none, [0, 4]⟩,
  ⟨(some 2), .mv (.t 24), none, [5, 0, 1, 2, 3, 4, 5]⟩])
.ret)))))
theorem r_math_bits_Len64 : fnOf Try.prog n_math_bits_Len64 = some (c_math_bits_Len64, [.t 2], 25, false) := by kernel_rfl

/-- math/bits.Add64 -/
abbrev n_math_bits_Add64 : FuncId := 125
theorem x_math_bits_Add64 : Try.prog.funcs[n_math_bits_Add64]? = some Try.f125 := Try.func125
/-- tallymark/nat.Shr -/
abbrev n_nat_Shr : FuncId := 154
def c_nat_Shr : C := (.seq (.reg false [⟨(some 2), .box 178 (.t 0), none, []⟩,
  ⟨(some 4), .new 178 [.nilsl], none, []⟩])
(.seq (.reg false [⟨(some 8), .mv (.t 1), none, []⟩,
  ⟨(some 9), .mm true [(.d (.int .i64 0)), (.t 8)], none, [0]⟩,
  ⟨(some 1), .mv (.t 9), none, [1, 0, 1]⟩])
(.seq (.seq (.reg false [⟨(some 10), .mv (.t 1), none, []⟩,
  ⟨(some 11), .bin .quo (.t 10) (.d (.int .i64 64)), none, [0]⟩,
  ⟨(some 12), .fa 0 (.t 2), none, []⟩,
  ⟨(some 13), .load false 1 (.t 12), none, [2]⟩,
  ⟨(some 14), .len (.t 13), none, [3]⟩,
  ⟨(some 15), .bin .geq (.t 11) (.t 14), none, [1, 4]⟩])
(.cond (.t 15)
 (.seq (.reg false [⟨(some 16), .build [.nilsl] [], none, []⟩,
   ⟨none, .store 1 (.t 4) (.t 16), none, [0, 0]⟩])
 .ret)
 .skip))
(.seq (.reg false [⟨(some 17), .fa 0 (.t 2), none, []⟩,
  ⟨(some 18), .load false 1 (.t 17), none, [0]⟩,
  ⟨(some 19), .mv (.t 1), none, []⟩,
  ⟨(some 20), .bin .quo (.t 19) (.d (.int .i64 64)), none, [2]⟩,
  ⟨(some 21), .slice 1 (.t 18) (some (.t 20)) none none, none, [1, 3]⟩,
  ⟨(some 22), .call 119 [(.t 21)], none, [4]⟩,
  ⟨(some 5), .mv (.t 22), none, [5, 5, 0, 1, 2, 3, 4, 5]⟩])
(.seq (.seq (.reg false [⟨(some 23), .mv (.t 1), none, []⟩,
  ⟨(some 24), .bin .rem (.t 23) (.d (.int .i64 64)), none, [0]⟩,
  ⟨(some 6), .mv (.d (.int .i64 0)), none, []⟩,
  ⟨(some 7), .mv (.t 24), none, [1, 2, 0, 1, 2]⟩])
(.block 0 (.loop (.seq (.seq (.reg false [⟨(some 25), .mv (.t 6), none, []⟩,
  ⟨(some 26), .mv (.t 5), none, []⟩,
  ⟨(some 27), .len (.t 26), none, [1]⟩,
  ⟨(some 28), .bin .lss (.t 25) (.t 27), none, [0, 2]⟩])
(.cond (.t 28)
 .skip
 (.exit 0)))
(.seq (.block 1 (.seq (.reg false [⟨(some 31), .mv (.t 5), none, []⟩,
  ⟨(some 32), .mv (.t 6), none, []⟩,
  ⟨(some 33), .ix 1 (.t 31) (.t 32), none, [0, 1]⟩,
  ⟨(some 34), .load false 1 (.t 33), none, [2]⟩,
  ⟨(some 35), .mv (.t 7), none, []⟩,
  ⟨(some 36), .bin .shr (.t 34) (.t 35), none, [3, 4]⟩,
  ⟨(some 37), .ix 1 (.t 31) (.t 32), none, [0, 1, 0, 1, 2, 3, 4, 5]⟩,
  ⟨none, .store 1 (.t 37) (.t 36), none, [6, 5, 0, 1, 2, 3, 4, 5]⟩])
(.seq (.reg false [⟨(some 38), .mv (.t 6), none, []⟩,
  ⟨(some 39), .bin .add (.t 38) (.d (.int .i64 1)), none, [0]⟩,
  ⟨(some 40), .mv (.t 5), none, []⟩,
  ⟨(some 41), .len (.t 40), none, [2]⟩,
  ⟨(some 42), .bin .lss (.t 39) (.t 41), none, [1, 3]⟩])
(.cond (.t 42)
 (.reg true [⟨(some 43), .mv (.t 5), none, []⟩,
   ⟨(some 44), .mv (.t 6), none, []⟩,
   ⟨(some 45), .ix 1 (.t 43) (.t 44), none, [0, 1]⟩,
   ⟨(some 46), .load false 1 (.t 45), none, [2]⟩,
   ⟨(some 47), .mv (.t 5), none, []⟩,
   ⟨(some 48), .mv (.t 6), none, []⟩,
   ⟨(some 49), .bin .add (.t 48) (.d (.int .i64 1)), none, [5]⟩,
   ⟨(some 50), .ix 1 (.t 47) (.t 49), none, [4, 6]⟩,
   ⟨(some 51), .load false 1 (.t 50), none, [7]⟩,
   ⟨(some 52), .mv (.t 7), none, []⟩,
   ⟨(some 53), .bin .sub (.d (.int .i64 64)) (.t 52), none, [9]⟩,
   ⟨(some 54), .bin .shl (.t 51) (.t 53), none, [8, 10]⟩,
   ⟨(some 55), .bin .or (.t 46) (.t 54), none, [3, 11]⟩,
   ⟨(some 56), .ix 1 (.t 43) (.t 44), none, [0, 1, 0, 1, 2, 3, 4, 5, 6, 7, 8, 9, 10, 11, 12]⟩,
   ⟨none, .store 1 (.t 56) (.t 55), none, [13, 12, 0, 1, 2, 3, 4, 5, 6, 7, 8, 9, 10, 11, 12]⟩])
 .skip))))
(.reg false [⟨(some 29), .mv (.t 6), none, []⟩,
  ⟨(some 30), .bin .add (.t 29) (.d (.int .i64 1)), none, [0]⟩,
  ⟨(some 6), .mv (.t 30), none, [1, 0, 1]⟩]))))))
(.seq (.reg false [⟨(some 57), .mv (.t 5), none, []⟩,
  ⟨(some 58), .call 118 [(.t 57)], none, [0]⟩,
  ⟨none, .store 1 (.t 4) (.t 58), none, [1, 1, 0, 1]⟩])
.ret))))))
theorem r_nat_Shr : fnOf Try.prog n_nat_Shr = some (c_nat_Shr, [.cell 4 true 1], 59, false) := by kernel_rfl

/-- (tallymark/whole.Whole).Neg -/
abbrev n_whole_Whole_Neg : FuncId := 157
theorem x_whole_Whole_Neg : Try.prog.funcs[n_whole_Whole_Neg]? = some Try.f157 := Try.func157
/-- tallymark/nat.Add -/
abbrev n_nat_Add : FuncId := 123
def c_nat_Add : C := (.seq (.reg false [⟨(some 2), .box 178 (.t 0), none, []⟩,
  ⟨(some 3), .box 178 (.t 1), none, []⟩,
  ⟨(some 4), .new 178 [.nilsl], none, []⟩])
(.seq (.seq (.reg false [⟨(some 10), .fa 0 (.t 2), none, []⟩,
  ⟨(some 11), .load false 1 (.t 10), none, [0]⟩,
  ⟨(some 12), .len (.t 11), none, [1]⟩,
  ⟨(some 13), .fa 0 (.t 3), none, []⟩,
  ⟨(some 14), .load false 1 (.t 13), none, [3]⟩,
  ⟨(some 15), .len (.t 14), none, [4]⟩,
  ⟨(some 16), .bin .lss (.t 12) (.t 15), none, [2, 5]⟩])
(.cond (.t 16)
 (.reg false [⟨(some 17), .load true 1 (.t 3), none, []⟩,
   ⟨(some 18), .load true 1 (.t 2), none, []⟩,
   ⟨none, .store 1 (.t 2) (.t 17), none, [0, 0, 1]⟩,
   ⟨none, .store 1 (.t 3) (.t 18), none, [1, 2, 0, 1, 2]⟩])
 .skip))
(.seq (.reg false [⟨(some 19), .fa 0 (.t 2), none, []⟩,
  ⟨(some 20), .load false 1 (.t 19), none, [0]⟩,
  ⟨(some 21), .len (.t 20), none, [1]⟩,
  ⟨(some 22), .bin .add (.t 21) (.d (.int .i64 1)), none, [2]⟩,
  ⟨(some 23), .mksl 86 1 8 [(.int .u64 0)] (.t 22) (.t 22), none, [3, 3]⟩,
  ⟨(some 5), .mv (.t 23), none, [4, 0, 1, 2, 3, 4]⟩])
(.seq (.reg false [⟨(some 6), .mv (.d (.int .u64 0)), none, []⟩])
(.seq (.seq (.reg false [⟨(some 24), .fa 0 (.t 2), none, []⟩,
  ⟨(some 25), .load false 1 (.t 24), none, [0]⟩,
  ⟨(some 26), .len (.t 25), none, [1]⟩,
  ⟨(some 27), .mv (.d (.int .i64 0)), none, []⟩])
(.block 0 (.loop (.seq (.reg false [⟨(some 28), .bin .lss (.t 27) (.t 26), none, []⟩])
(.seq (.cond (.t 28)
 .skip
 (.exit 0))
(.seq (.block 1 (.seq (.reg false [⟨(some 29), .mv (.t 27), none, []⟩,
  ⟨(some 30), .ix 1 (.t 25) (.t 27), none, []⟩,
  ⟨(some 31), .load false 1 (.t 30), none, [1]⟩,
  ⟨(some 7), .mv (.t 29), none, [0, 0, 1, 2]⟩,
  ⟨(some 8), .mv (.t 31), none, [2, 3, 0, 1, 2, 3]⟩])
(.seq (.reg false [⟨(some 9), .mv (.d (.int .u64 0)), none, []⟩])
(.seq (.seq (.reg false [⟨(some 32), .mv (.t 7), none, []⟩,
  ⟨(some 33), .fa 0 (.t 3), none, []⟩,
  ⟨(some 34), .load false 1 (.t 33), none, [1]⟩,
  ⟨(some 35), .len (.t 34), none, [2]⟩,
  ⟨(some 36), .bin .lss (.t 32) (.t 35), none, [0, 3]⟩])
(.cond (.t 36)
 (.reg false [⟨(some 37), .fa 0 (.t 3), none, []⟩,
   ⟨(some 38), .load false 1 (.t 37), none, [0]⟩,
   ⟨(some 39), .mv (.t 7), none, []⟩,
   ⟨(some 40), .ix 1 (.t 38) (.t 39), none, [1, 2]⟩,
   ⟨(some 41), .load false 1 (.t 40), none, [3]⟩,
   ⟨(some 9), .mv (.t 41), none, [4, 0, 1, 2, 3, 4]⟩])
 .skip))
(.reg false [⟨(some 43), .mv (.t 5), none, []⟩,
  ⟨(some 44), .mv (.t 7), none, []⟩,
  ⟨(some 45), .mv (.t 8), none, []⟩,
  ⟨(some 46), .mv (.t 9), none, []⟩,
  ⟨(some 47), .mv (.t 6), none, []⟩,
  ⟨(some 48), .call 125 [(.t 45), (.t 46), (.t 47)], none, [2, 3, 4]⟩,
  ⟨(some 42), .mv (.t 48), none, [5]⟩,
  ⟨(some 49), .ext (.t 42) 0, none, [6]⟩,
  ⟨(some 50), .ext (.t 42) 1, none, [6]⟩,
  ⟨(some 51), .ix 1 (.t 43) (.t 44), none, [0, 1, 0, 1, 2, 3, 4, 5, 6, 7]⟩,
  ⟨none, .store 1 (.t 51) (.t 49), none, [9, 7, 5, 0, 1, 2, 3, 4, 5, 6, 7]⟩,
  ⟨(some 6), .mv (.t 50), none, [8, 10, 0, 1, 2, 3, 4, 5, 6, 7, 8, 9, 10]⟩])))))
(.reg false [⟨(some 52), .bin .add (.t 27) (.d (.int .i64 1)), none, []⟩,
  ⟨(some 27), .mv (.t 52), none, [0]⟩])))))))
(.seq (.reg false [⟨(some 53), .mv (.t 5), none, []⟩,
  ⟨(some 54), .fa 0 (.t 2), none, []⟩,
  ⟨(some 55), .load false 1 (.t 54), none, [1]⟩,
  ⟨(some 56), .len (.t 55), none, [2]⟩,
  ⟨(some 57), .mv (.t 6), none, []⟩,
  ⟨(some 58), .ix 1 (.t 53) (.t 56), none, [0, 3, 0, 1, 2, 3, 4]⟩,
  ⟨none, .store 1 (.t 58) (.t 57), none, [5, 4, 0, 1, 2, 3, 4]⟩])
(.seq (.reg false [⟨(some 59), .mv (.t 5), none, []⟩,
  ⟨(some 60), .call 118 [(.t 59)], none, [0]⟩,
  ⟨none, .store 1 (.t 4) (.t 60), none, [1, 1, 0, 1]⟩])
.ret)))))))
theorem r_nat_Add : fnOf Try.prog n_nat_Add = some (c_nat_Add, [.cell 4 true 1], 61, false) := by kernel_rfl

/-- (tallymark/rat.Rat).Text -/
abbrev n_rat_Rat_Text : FuncId := 158
theorem x_rat_Rat_Text : Try.prog.funcs[n_rat_Rat_Text]? = some Try.f158 := Try.func158
/-- tallymark/tallymarklaw09.Few -/
abbrev n_Tlaw09_Few : FuncId := 28
def c_Tlaw09_Few : C := (.seq (.reg false [⟨(some 4), .mv (.d .nilsl), none, []⟩])
(.seq (.seq (.reg false [⟨(some 5), .mv (.t 0), none, []⟩,
  ⟨(some 6), .len (.t 5), none, [0]⟩,
  ⟨(some 7), .mv (.t 1), none, []⟩,
  ⟨(some 8), .bin .gtr (.t 6) (.t 7), none, [1, 2]⟩])
(.cond (.t 8)
 (.seq (.reg false [⟨(some 9), .mv (.t 0), none, []⟩,
   ⟨(some 10), .mv (.t 1), none, []⟩,
   ⟨(some 11), .slice 1 (.t 9) none (some (.t 10)) none, none, [0, 1]⟩,
   ⟨(some 4), .mv (.t 11), none, [2, 0, 1, 2]⟩])
 .ret)
 .skip))
(.seq (.reg false [⟨(some 12), .mv (.t 0), none, []⟩,
  ⟨(some 4), .mv (.t 12), none, [0, 0]⟩])
.ret)))
theorem r_Tlaw09_Few : fnOf Try.prog n_Tlaw09_Few = some (c_Tlaw09_Few, [.t 4], 13, false) := by kernel_rfl

/-- slices.Clone[[]bool,bool] -/
abbrev n_slices_Clone_bool_bool : FuncId := 52
def c_slices_Clone_bool_bool : C := (.seq (.reg false [⟨(some 2), .mv (.d .nilsl), none, []⟩])
(.seq (.seq (.reg false [⟨(some 3), .mv (.t 0), none, []⟩,
  ⟨(some 4), .snl false (.t 3), none, [0]⟩])
(.cond (.t 4)
 (.seq (.reg false [⟨(some 2), .mv (.d .nilsl), none, []⟩])
 .ret)
 .skip))
(.seq (.reg false [⟨(some 5), .bsl0, none, []⟩,
  ⟨(some 6), .mv (.t 0), none, []⟩,
  ⟨(some 7), .app 4 1 1 (.t 5) (.t 6), none, [0, 1]⟩,
  ⟨(some 2), .mv (.t 7), none, [2, 2, 0, 1, 2]⟩])
.ret)))
theorem r_slices_Clone_bool_bool : fnOf Try.prog n_slices_Clone_bool_bool = some (c_slices_Clone_bool_bool, [.t 2], 8, false) := by kernel_rfl

/-- tallymark/tape.New -/
abbrev n_tape_New : FuncId := 31
def c_tape_New : C := (.seq (.reg false [⟨(some 2), .mv (.d .nilp), none, []⟩])
(.seq (.reg false [⟨(some 3), .mv (.t 0), none, []⟩,
  ⟨(some 4), .mv (.t 0), none, []⟩,
  ⟨(some 5), .len (.t 4), none, [1]⟩,
  ⟨(some 6), .mm false [(.t 5), (.d (.int .i64 1048576))], none, [2]⟩,
  ⟨(some 7), .slice 1 (.t 3) none (some (.t 6)) none, none, [0, 3]⟩,
  ⟨(some 8), .call 52 [(.t 7)], none, [4]⟩,
  ⟨(some 9), .build [(.int .i64 0), (.bool false), .nilsl] [(2, 1, (.t 8))], none, [5]⟩,
  ⟨(some 10), .box 109 (.t 9), none, [6]⟩,
  ⟨(some 2), .mv (.t 10), none, [7, 5, 0, 1, 2, 3, 4, 5, 6, 7]⟩])
.ret))
theorem r_tape_New : fnOf Try.prog n_tape_New = some (c_tape_New, [.t 2], 11, false) := by kernel_rfl

/-- (*tallymark/tape.Tape).Flip -/
abbrev n_tape_Tape_Flip : FuncId := 122
def c_tape_Tape_Flip : C := (.seq (.reg false [⟨(some 2), .mv (.d (.bool false)), none, []⟩,
  ⟨(some 3), .mv (.d (.int .i64 0)), none, [0]⟩])
(.seq (.seq (.reg true [⟨(some 4), .mv (.t 0), none, []⟩,
  ⟨(some 5), .chk (.t 4), none, [0]⟩,
  ⟨(some 6), .fa 0 (.t 5), none, [1]⟩,
  ⟨(some 7), .fa 1 (.t 6), none, [2]⟩,
  ⟨(some 8), .load false 1 (.t 7), none, [3]⟩,
  ⟨(some 9), .mv (.t 8), none, [4]⟩,
  ⟨(some 10), .mv (.t 0), some (9, false), [5]⟩,
  ⟨(some 11), .chk (.t 10), some (9, false), [6, 5]⟩,
  ⟨(some 12), .fa 0 (.t 11), some (9, false), [7, 5]⟩,
  ⟨(some 13), .fa 0 (.t 12), some (9, false), [8, 5]⟩,
  ⟨(some 14), .load false 1 (.t 13), some (9, false), [9, 5]⟩,
  ⟨(some 15), .mv (.t 0), some (9, false), [5]⟩,
  ⟨(some 16), .chk (.t 15), some (9, false), [11, 5]⟩,
  ⟨(some 17), .fa 2 (.t 16), some (9, false), [12, 5]⟩,
  ⟨(some 18), .load false 1 (.t 17), some (9, false), [13, 5]⟩,
  ⟨(some 19), .len (.t 18), some (9, false), [14, 5]⟩,
  ⟨(some 20), .bin .eql (.t 14) (.t 19), some (9, false), [10, 15, 5]⟩,
  ⟨(some 21), .pick (.t 9) (.d (.bool true)) (.t 20), none, [5, 16]⟩])
(.cond (.t 21)
 (.seq (.reg false [⟨(some 22), .mv (.t 0), none, []⟩,
   ⟨(some 23), .chk (.t 22), none, [0, 0]⟩,
   ⟨(some 24), .fa 0 (.t 23), none, [1, 0]⟩,
   ⟨(some 25), .fa 1 (.t 24), none, [2, 0]⟩,
   ⟨none, .store 1 (.t 25) (.d (.bool true)), none, [3, 0]⟩])
 (.seq (.reg false [⟨(some 2), .mv (.d (.bool false)), none, []⟩,
   ⟨(some 3), .mv (.d (.int .i64 8)), none, [0, 0]⟩])
 .ret))
 .skip))
(.seq (.reg false [⟨(some 26), .mv (.t 0), none, []⟩,
  ⟨(some 27), .chk (.t 26), none, [0]⟩,
  ⟨(some 28), .fa 0 (.t 27), none, [1]⟩,
  ⟨(some 29), .fa 0 (.t 28), none, [2]⟩,
  ⟨(some 30), .load false 1 (.t 29), none, [3]⟩,
  ⟨(some 31), .bin .add (.t 30) (.d (.int .i64 1)), none, [4]⟩,
  ⟨(some 32), .chk (.t 26), none, [0, 0, 1, 2, 3, 4, 5]⟩,
  ⟨(some 33), .fa 0 (.t 32), none, [6, 0, 1, 2, 3, 4, 5]⟩,
  ⟨(some 34), .fa 0 (.t 33), none, [7, 0, 1, 2, 3, 4, 5]⟩,
  ⟨none, .store 1 (.t 34) (.t 31), none, [8, 5, 0, 1, 2, 3, 4, 5]⟩])
(.seq (.reg true [⟨(some 35), .mv (.t 0), none, []⟩,
  ⟨(some 36), .chk (.t 35), none, [0]⟩,
  ⟨(some 37), .fa 2 (.t 36), none, [1]⟩,
  ⟨(some 38), .load false 1 (.t 37), none, [2]⟩,
  ⟨(some 39), .mv (.t 0), none, []⟩,
  ⟨(some 40), .chk (.t 39), none, [4]⟩,
  ⟨(some 41), .fa 0 (.t 40), none, [5]⟩,
  ⟨(some 42), .fa 0 (.t 41), none, [6]⟩,
  ⟨(some 43), .load false 1 (.t 42), none, [7]⟩,
  ⟨(some 44), .bin .sub (.t 43) (.d (.int .i64 1)), none, [8]⟩,
  ⟨(some 45), .ix 1 (.t 38) (.t 44), none, [3, 9]⟩,
  ⟨(some 46), .load false 1 (.t 45), none, [10]⟩,
  ⟨(some 2), .mv (.t 46), none, [11, 0, 1, 2, 3, 4, 5, 6, 7, 8, 9, 10, 11]⟩,
  ⟨(some 3), .mv (.d (.int .i64 0)), none, [12, 0, 1, 2, 3, 4, 5, 6, 7, 8, 9, 10, 11, 12]⟩])
.ret))))
theorem r_tape_Tape_Flip : fnOf Try.prog n_tape_Tape_Flip = some (c_tape_Tape_Flip, [.t 2, .t 3], 47, false) := by kernel_rfl

/-- tallymark/flip.Half -/
abbrev n_flip_Half : FuncId := 137
def c_flip_Half : C := (.seq (.reg false [⟨(some 4), .mv (.d (.bool false)), none, []⟩,
  ⟨(some 5), .mv (.d (.int .i64 0)), none, [0]⟩])
(.seq (.seq (.reg false [⟨(some 8), .mv (.t 1), none, []⟩,
  ⟨(some 9), .mm true [(.d (.int .i64 0)), (.t 8)], none, [0]⟩,
  ⟨(some 10), .mv (.d (.int .i64 0)), none, []⟩])
(.block 0 (.loop (.seq (.reg false [⟨(some 11), .bin .lss (.t 10) (.t 9), none, []⟩])
(.seq (.cond (.t 11)
 .skip
 (.exit 0))
(.seq (.block 1 (.seq (.reg false [⟨(some 13), .mv (.t 0), none, []⟩,
  ⟨(some 14), .call 122 [(.t 13)], none, [0]⟩,
  ⟨(some 12), .mv (.t 14), none, [1]⟩,
  ⟨(some 15), .ext (.t 12) 0, none, [2]⟩,
  ⟨(some 16), .ext (.t 12) 1, none, [2]⟩,
  ⟨(some 6), .mv (.t 15), none, [3, 1, 0, 1, 2, 3]⟩,
  ⟨(some 7), .mv (.t 16), none, [4, 5, 0, 1, 2, 3, 4, 5]⟩])
(.seq (.reg false [⟨(some 17), .mv (.t 6), none, []⟩,
  ⟨(some 18), .un .not (.t 17), none, [0]⟩])
(.cond (.t 18)
 (.seq (.reg false [⟨(some 19), .mv (.t 7), none, []⟩,
   ⟨(some 4), .mv (.d (.bool false)), none, []⟩,
   ⟨(some 5), .mv (.t 19), none, [0, 1, 0, 1]⟩])
 .ret)
 .skip))))
(.reg false [⟨(some 20), .bin .add (.t 10) (.d (.int .i64 1)), none, []⟩,
  ⟨(some 10), .mv (.t 20), none, [0]⟩])))))))
(.seq (.reg false [⟨(some 4), .mv (.d (.bool true)), none, []⟩,
  ⟨(some 5), .mv (.d (.int .i64 0)), none, [0, 0]⟩])
.ret)))
theorem r_flip_Half : fnOf Try.prog n_flip_Half = some (c_flip_Half, [.t 4, .t 5], 21, false) := by kernel_rfl

/-- tallymark/float.Step -/
abbrev n_float_Step : FuncId := 134
def c_float_Step : C := (.seq (.reg false [⟨(some 6), .mv (.d (.bool false)), none, []⟩,
  ⟨(some 7), .mv (.d (.int .i64 0)), none, [0]⟩])
(.seq (.seq (.reg false [⟨(some 11), .mv (.t 1), none, []⟩,
  ⟨(some 12), .mv (.t 2), none, []⟩,
  ⟨(some 13), .bsl 3 1 1 [(.int .i64 0)] [(0, 1, (.t 12))], none, [1]⟩,
  ⟨(some 14), .call 135 [(.t 11), (.t 13)], none, [0, 2]⟩,
  ⟨(some 8), .mv (.t 14), none, [3, 3, 0, 1, 2, 3]⟩])
(.seq (.reg false [⟨(some 15), .mv (.t 8), none, []⟩,
  ⟨(some 16), .bin .neq (.t 15) (.d (.int .i64 0)), none, [0]⟩])
(.cond (.t 16)
 (.seq (.reg false [⟨(some 17), .mv (.t 8), none, []⟩,
   ⟨(some 6), .mv (.d (.bool false)), none, []⟩,
   ⟨(some 7), .mv (.t 17), none, [0, 1, 0, 1]⟩])
 .ret)
 .skip)))
(.seq (.reg false [⟨(some 19), .mv (.t 1), none, []⟩,
  ⟨(some 20), .mv (.t 2), none, []⟩,
  ⟨(some 21), .call 136 [(.t 19), (.t 20)], none, [0, 1]⟩,
  ⟨(some 18), .mv (.t 21), none, [2]⟩,
  ⟨(some 22), .ext (.t 18) 0, none, [3]⟩,
  ⟨(some 23), .ext (.t 18) 1, none, [3]⟩,
  ⟨(some 9), .mv (.t 22), none, [4, 2, 0, 1, 2, 3, 4]⟩,
  ⟨(some 10), .mv (.t 23), none, [5, 6, 0, 1, 2, 3, 4, 5, 6]⟩])
(.seq (.reg false [⟨(some 24), .mv (.t 0), none, []⟩,
  ⟨(some 25), .mv (.t 9), none, []⟩,
  ⟨(some 26), .call 137 [(.t 24), (.t 25)], none, [0, 1]⟩,
  ⟨(some 27), .ext (.t 26) 0, none, [2]⟩,
  ⟨(some 28), .ext (.t 26) 1, none, [2]⟩,
  ⟨(some 6), .mv (.t 27), none, [3, 2, 0, 1, 2, 3, 4]⟩,
  ⟨(some 7), .mv (.t 28), none, [4, 5, 0, 1, 2, 3, 4, 5]⟩])
.ret))))
theorem r_float_Step : fnOf Try.prog n_float_Step = some (c_float_Step, [.t 6, .t 7], 29, false) := by kernel_rfl

/-- (*tallymark/tape.Tape).Read -/
abbrev n_tape_Tape_Read : FuncId := 33
def c_tape_Tape_Read : C := (.seq (.reg false [⟨(some 2), .mv (.d (.int .i64 0)), none, []⟩])
(.seq (.reg false [⟨(some 3), .mv (.t 0), none, []⟩,
  ⟨(some 4), .chk (.t 3), none, [0]⟩,
  ⟨(some 5), .fa 0 (.t 4), none, [1]⟩,
  ⟨(some 6), .fa 0 (.t 5), none, [2]⟩,
  ⟨(some 7), .load false 1 (.t 6), none, [3]⟩,
  ⟨(some 2), .mv (.t 7), none, [4, 0, 1, 2, 3, 4]⟩])
.ret))
theorem r_tape_Tape_Read : fnOf Try.prog n_tape_Tape_Read = some (c_tape_Tape_Read, [.t 2], 8, false) := by kernel_rfl

/-- tallymark/tallymarkref13.Size -/
abbrev n_Tref13_Size : FuncId := 51
def c_Tref13_Size : C := (.seq (.reg false [⟨(some 2), .mv (.d (.int .i64 0)), none, []⟩])
(.seq (.reg false [⟨(some 3), .mv (.d (.int .i64 1)), none, []⟩])
(.seq (.seq (.reg false [⟨(some 4), .mv (.d (.int .i64 0)), none, []⟩])
(.block 0 (.loop (.seq (.seq (.reg false [⟨(some 5), .mv (.t 4), none, []⟩,
  ⟨(some 6), .mv (.t 0), none, []⟩,
  ⟨(some 7), .bin .lss (.t 5) (.t 6), none, [0, 1]⟩])
(.cond (.t 7)
 .skip
 (.exit 0)))
(.seq (.block 1 (.reg false [⟨(some 10), .mv (.t 3), none, []⟩,
  ⟨(some 11), .bin .mul (.d (.int .i64 2)) (.t 10), none, [0]⟩,
  ⟨(some 3), .mv (.t 11), none, [1, 0, 1]⟩]))
(.reg false [⟨(some 8), .mv (.t 4), none, []⟩,
  ⟨(some 9), .bin .add (.t 8) (.d (.int .i64 1)), none, [0]⟩,
  ⟨(some 4), .mv (.t 9), none, [1, 0, 1]⟩]))))))
(.seq (.reg false [⟨(some 12), .mv (.t 3), none, []⟩,
  ⟨(some 2), .mv (.t 12), none, [0, 0]⟩])
.ret))))
theorem r_Tref13_Size : fnOf Try.prog n_Tref13_Size = some (c_Tref13_Size, [.t 2], 13, false) := by kernel_rfl

/-- tallymark/yu.Good -/
abbrev n_yu_Good : FuncId := 144
def c_yu_Good : C := (.seq (.reg false [⟨(some 2), .mv (.d (.bool false)), none, []⟩])
(.seq (.reg false [⟨(some 3), .mv (.t 0), none, []⟩,
  ⟨(some 4), .bin .geq (.t 3) (.d (.int .i64 1)), none, [0]⟩,
  ⟨(some 5), .mv (.t 4), none, [1]⟩,
  ⟨(some 6), .mv (.t 0), some (5, true), [2]⟩,
  ⟨(some 7), .bin .leq (.t 6) (.d (.int .i64 5)), some (5, true), [3, 2]⟩,
  ⟨(some 8), .pick (.t 5) (.t 7) (.d (.bool false)), none, [2, 4]⟩,
  ⟨(some 2), .mv (.t 8), none, [5, 2, 0, 1, 2, 3, 4, 5]⟩])
.ret))
theorem r_yu_Good : fnOf Try.prog n_yu_Good = some (c_yu_Good, [.t 2], 9, false) := by kernel_rfl

/-- tallymark/yu.walk -/
abbrev n_yu_walk : FuncId := 147
def c_yu_walk : C := (.seq (.reg false [⟨(some 1), .box 3 (.t 0), none, []⟩,
  ⟨(some 2), .mv (.d .nilfn), none, []⟩])
(.seq (.reg false [⟨(some 3), .mkf (.func 148) [(.t 1)], none, []⟩,
  ⟨(some 2), .mv (.t 3), none, [0, 0]⟩])
.ret))
theorem r_yu_walk : fnOf Try.prog n_yu_walk = some (c_yu_walk, [.t 2], 4, false) := by kernel_rfl

/-- tallymark/yu.Step -/
abbrev n_yu_Step : FuncId := 145
def c_yu_Step : C := (.seq (.reg false [⟨(some 6), .mv (.d (.bool false)), none, []⟩,
  ⟨(some 7), .mv (.d (.int .i64 0)), none, [0]⟩])
(.seq (.reg false [⟨(some 11), .mv (.t 1), none, []⟩,
  ⟨(some 12), .mv (.t 2), none, []⟩,
  ⟨(some 13), .call 146 [(.t 11), (.t 12)], none, [0, 1]⟩,
  ⟨(some 10), .mv (.t 13), none, [2]⟩,
  ⟨(some 14), .ext (.t 10) 0, none, [3]⟩,
  ⟨(some 15), .ext (.t 10) 1, none, [3]⟩,
  ⟨(some 8), .new 192 [(.int .i64 0), (.int .i64 0), .nilsl, .nilsl], none, []⟩,
  ⟨none, .store 4 (.t 8) (.t 14), none, [6, 4, 2, 0, 1, 2, 3, 4, 6]⟩,
  ⟨(some 9), .mv (.t 15), none, [5, 7, 0, 1, 2, 3, 4, 5, 6, 7]⟩])
(.seq (.seq (.reg false [⟨(some 16), .mv (.t 9), none, []⟩,
  ⟨(some 17), .bin .neq (.t 16) (.d (.int .i64 0)), none, [0]⟩])
(.cond (.t 17)
 (.seq (.reg false [⟨(some 18), .mv (.t 9), none, []⟩,
   ⟨(some 6), .mv (.d (.bool false)), none, []⟩,
   ⟨(some 7), .mv (.t 18), none, [0, 1, 0, 1]⟩])
 .ret)
 .skip))
(.seq (.reg false [⟨(some 19), .mv (.t 0), none, []⟩,
  ⟨(some 20), .fa 1 (.t 8), none, []⟩,
  ⟨(some 21), .load false 1 (.t 20), none, [1]⟩,
  ⟨(some 22), .call 137 [(.t 19), (.t 21)], none, [0, 2]⟩,
  ⟨(some 23), .ext (.t 22) 0, none, [3]⟩,
  ⟨(some 24), .ext (.t 22) 1, none, [3]⟩,
  ⟨(some 6), .mv (.t 23), none, [4, 3, 0, 1, 2, 3, 4, 5]⟩,
  ⟨(some 7), .mv (.t 24), none, [5, 6, 0, 1, 2, 3, 4, 5, 6]⟩])
.ret))))
theorem r_yu_Step : fnOf Try.prog n_yu_Step = some (c_yu_Step, [.t 6, .t 7], 25, false) := by kernel_rfl

/-- tallymark/yu.more -/
abbrev n_yu_more : FuncId := 151
def c_yu_more : C := (.seq (.reg false [⟨(some 3), .box 178 (.t 1), none, []⟩,
  ⟨(some 4), .new 178 [.nilsl], none, []⟩])
(.seq (.reg false [⟨(some 8), .load true 1 (.t 3), none, []⟩,
  ⟨(some 9), .mv (.t 0), none, []⟩,
  ⟨(some 10), .call 154 [(.t 8), (.t 9)], none, [0, 1]⟩,
  ⟨(some 5), .new 178 [.nilsl], none, []⟩,
  ⟨none, .store 1 (.t 5) (.t 10), none, [3, 2, 2, 0, 1, 2, 3]⟩])
(.seq (.seq (.reg false [⟨(some 12), .load true 1 (.t 5), none, []⟩,
  ⟨(some 13), .mv (.t 0), none, []⟩,
  ⟨(some 14), .call 150 [(.t 12), (.t 13)], none, [0, 1]⟩,
  ⟨(some 11), .mv (.t 14), none, [2]⟩,
  ⟨(some 15), .ext (.t 11) 0, none, [3]⟩,
  ⟨(some 16), .ext (.t 11) 1, none, [3]⟩,
  ⟨(some 6), .new 178 [.nilsl], none, []⟩,
  ⟨none, .store 1 (.t 6) (.t 15), none, [6, 4, 2, 0, 1, 2, 3, 4, 6]⟩,
  ⟨(some 7), .mv (.t 16), none, [5, 7, 0, 1, 2, 3, 4, 5, 6, 7]⟩])
(.seq (.reg false [⟨(some 17), .load true 1 (.t 6), none, []⟩,
  ⟨(some 18), .load true 1 (.t 3), none, []⟩,
  ⟨(some 19), .call 121 [(.t 17), (.t 18)], none, [0, 1]⟩,
  ⟨(some 20), .bin .lss (.t 19) (.d (.int .i64 0)), none, [2]⟩])
(.cond (.t 20)
 (.reg true [⟨(some 21), .load true 1 (.t 5), none, []⟩,
   ⟨(some 22), .bsl 86 1 1 [(.int .u64 0)] [(0, 1, (.d (.int .u64 1)))], none, []⟩,
   ⟨(some 23), .call 115 [(.t 22)], none, [1]⟩,
   ⟨(some 24), .call 123 [(.t 21), (.t 23)], none, [0, 2, 2]⟩,
   ⟨none, .store 1 (.t 5) (.t 24), none, [3, 3, 0, 1, 2, 3]⟩])
 .skip)))
(.seq (.reg false [⟨(some 25), .load true 1 (.t 3), none, []⟩,
  ⟨(some 26), .load true 1 (.t 5), none, []⟩,
  ⟨(some 27), .call 123 [(.t 25), (.t 26)], none, [0, 1]⟩,
  ⟨none, .store 1 (.t 4) (.t 27), none, [2, 2, 0, 1, 2]⟩])
.ret))))
theorem r_yu_more : fnOf Try.prog n_yu_more = some (c_yu_more, [.cell 4 true 1], 28, false) := by kernel_rfl

/-- (tallymark/nat.Nat).Bits -/
abbrev n_nat_Nat_Bits : FuncId := 155
def c_nat_Nat_Bits : C := (.seq (.reg false [⟨(some 1), .box 178 (.t 0), none, []⟩,
  ⟨(some 2), .mv (.d (.int .i64 0)), none, []⟩])
(.seq (.reg false [⟨(some 4), .fa 0 (.t 1), none, []⟩,
  ⟨(some 5), .load false 1 (.t 4), none, [0]⟩,
  ⟨(some 6), .len (.t 5), none, [1]⟩,
  ⟨(some 3), .mv (.t 6), none, [2, 0, 1, 2]⟩])
(.seq (.seq (.reg false [⟨(some 7), .mv (.t 3), none, []⟩,
  ⟨(some 8), .bin .eql (.t 7) (.d (.int .i64 0)), none, [0]⟩])
(.cond (.t 8)
 (.seq (.reg false [⟨(some 2), .mv (.d (.int .i64 0)), none, []⟩])
 .ret)
 .skip))
(.seq (.reg false [⟨(some 9), .mv (.t 3), none, []⟩,
  ⟨(some 10), .bin .sub (.t 9) (.d (.int .i64 1)), none, [0]⟩,
  ⟨(some 11), .bin .mul (.d (.int .i64 64)) (.t 10), none, [1]⟩,
  ⟨(some 12), .fa 0 (.t 1), none, []⟩,
  ⟨(some 13), .load false 1 (.t 12), none, [3]⟩,
  ⟨(some 14), .mv (.t 3), none, []⟩,
  ⟨(some 15), .bin .sub (.t 14) (.d (.int .i64 1)), none, [5]⟩,
  ⟨(some 16), .ix 1 (.t 13) (.t 15), none, [4, 6]⟩,
  ⟨(some 17), .load false 1 (.t 16), none, [7]⟩,
  ⟨(some 18), .call 86 [(.t 17)], none, [8]⟩,
  ⟨(some 19), .bin .add (.t 11) (.t 18), none, [2, 9]⟩,
  ⟨(some 2), .mv (.t 19), none, [10, 9, 0, 1, 2, 3, 4, 5, 6, 7, 8, 9, 10]⟩])
.ret))))
theorem r_nat_Nat_Bits : fnOf Try.prog n_nat_Nat_Bits = some (c_nat_Nat_Bits, [.t 2], 20, false) := by kernel_rfl

/-- tallymark/yu.shift -/
abbrev n_yu_shift : FuncId := 152
def c_yu_shift : C := (.seq (.reg false [⟨(some 3), .box 178 (.t 1), none, []⟩,
  ⟨(some 4), .mv (.d (.int .i64 0)), none, []⟩])
(.seq (.reg false [⟨(some 5), .load true 1 (.t 3), none, []⟩,
  ⟨(some 6), .call 155 [(.t 5)], none, [0]⟩,
  ⟨(some 7), .bin .sub (.t 6) (.d (.int .i64 1)), none, [1]⟩,
  ⟨(some 8), .mv (.t 0), none, []⟩,
  ⟨(some 9), .bin .mul (.d (.int .i64 2)) (.t 8), none, [3]⟩,
  ⟨(some 10), .bin .sub (.t 7) (.t 9), none, [2, 4]⟩,
  ⟨(some 11), .mm true [(.d (.int .i64 0)), (.t 10)], none, [5]⟩,
  ⟨(some 4), .mv (.t 11), none, [6, 1, 0, 1, 2, 3, 4, 5, 6]⟩])
.ret))
theorem r_yu_shift : fnOf Try.prog n_yu_shift = some (c_yu_shift, [.t 4], 12, false) := by kernel_rfl

/-- (tallymark/yu.Place).next -/
abbrev n_yu_Place_next : FuncId := 149
def c_yu_Place_next : C := (.seq (.reg false [⟨(some 2), .box 192 (.t 0), none, []⟩,
  ⟨(some 4), .new 192 [(.int .i64 0), (.int .i64 0), .nilsl, .nilsl], none, []⟩])
(.seq (.reg true [⟨(some 8), .bsl 86 1 1 [(.int .u64 0)] [(0, 1, (.d (.int .u64 1)))], none, []⟩,
  ⟨(some 9), .call 115 [(.t 8)], none, [0]⟩,
  ⟨(some 10), .fa 1 (.t 2), none, []⟩,
  ⟨(some 11), .load false 1 (.t 10), none, [2]⟩,
  ⟨(some 12), .call 150 [(.t 9), (.t 11)], none, [1, 3, 1]⟩,
  ⟨(some 7), .mv (.t 12), none, [4]⟩,
  ⟨(some 13), .ext (.t 7) 0, none, [5]⟩,
  ⟨(some 14), .ext (.t 7) 1, none, [5]⟩,
  ⟨(some 5), .new 178 [.nilsl], none, []⟩,
  ⟨none, .store 1 (.t 5) (.t 13), none, [8, 6, 4, 0, 1, 2, 3, 4, 5, 6, 8]⟩,
  ⟨(some 6), .mv (.t 14), none, [7, 9, 0, 1, 2, 3, 4, 5, 6, 7, 8, 9]⟩])
(.seq (.reg false [⟨(some 15), .fa 2 (.t 2), none, []⟩,
  ⟨(some 16), .load true 1 (.t 15), none, [0]⟩,
  ⟨(some 17), .load true 1 (.t 5), none, []⟩,
  ⟨(some 18), .call 123 [(.t 16), (.t 17)], none, [1, 2]⟩,
  ⟨(some 19), .fa 2 (.t 2), none, [0, 1, 2, 3]⟩,
  ⟨none, .store 1 (.t 19) (.t 18), none, [4, 3, 3, 0, 1, 2, 3]⟩])
(.seq (.seq (.reg false [⟨(some 20), .fa 2 (.t 2), none, []⟩,
  ⟨(some 21), .load true 1 (.t 20), none, [0]⟩,
  ⟨(some 22), .fa 3 (.t 2), none, []⟩,
  ⟨(some 23), .load true 1 (.t 22), none, [2]⟩,
  ⟨(some 24), .call 121 [(.t 21), (.t 23)], none, [1, 3]⟩,
  ⟨(some 25), .bin .geq (.t 24) (.d (.int .i64 0)), none, [4]⟩])
(.cond (.t 25)
 (.seq (.reg false [⟨(some 26), .fa 0 (.t 2), none, []⟩,
   ⟨(some 27), .load false 1 (.t 26), none, [0]⟩,
   ⟨(some 28), .bin .add (.t 27) (.d (.int .i64 1)), none, [1]⟩,
   ⟨(some 29), .fa 0 (.t 2), none, [0, 1, 2]⟩,
   ⟨none, .store 1 (.t 29) (.t 28), none, [3, 2, 0, 1, 2]⟩])
 (.seq (.reg false [⟨(some 30), .mv (.t 1), none, []⟩,
   ⟨(some 31), .fa 3 (.t 2), none, []⟩,
   ⟨(some 32), .load true 1 (.t 31), none, [1]⟩,
   ⟨(some 33), .call 151 [(.t 30), (.t 32)], none, [0, 2]⟩,
   ⟨(some 34), .fa 3 (.t 2), none, [0, 1, 2, 3]⟩,
   ⟨none, .store 1 (.t 34) (.t 33), none, [4, 3, 3, 0, 1, 2, 3]⟩])
 (.reg false [⟨(some 35), .mv (.t 1), none, []⟩,
   ⟨(some 36), .fa 3 (.t 2), none, []⟩,
   ⟨(some 37), .load true 1 (.t 36), none, [1]⟩,
   ⟨(some 38), .call 152 [(.t 35), (.t 37)], none, [0, 2]⟩,
   ⟨(some 39), .fa 1 (.t 2), none, [0, 1, 2, 3]⟩,
   ⟨none, .store 1 (.t 39) (.t 38), none, [4, 3, 3, 0, 1, 2, 3]⟩])))
 .skip))
(.seq (.reg false [⟨(some 40), .load true 4 (.t 2), none, []⟩,
  ⟨none, .store 4 (.t 4) (.t 40), none, [0, 0]⟩])
.ret)))))
theorem r_yu_Place_next : fnOf Try.prog n_yu_Place_next = some (c_yu_Place_next, [.cell 4 true 4], 41, false) := by kernel_rfl

/-- tallymark/yu.walk$1 -/
abbrev n_yu_walk_1 : FuncId := 148
def c_yu_walk_1 : C := (.seq (.reg false [⟨(some 5), .load false 1 (.t 1), none, []⟩,
  ⟨(some 6), .bin .mul (.d (.int .i64 2)) (.t 5), none, [0]⟩,
  ⟨(some 7), .bin .shl (.d (.int .u64 1)) (.t 6), none, [1]⟩,
  ⟨(some 8), .bsl 86 1 1 [(.int .u64 0)] [(0, 1, (.t 7))], none, [2]⟩,
  ⟨(some 9), .call 115 [(.t 8)], none, [3]⟩,
  ⟨(some 10), .build [(.int .i64 0), (.int .i64 0), .nilsl, .nilsl] [(3, 1, (.t 9))], none, [4]⟩,
  ⟨(some 3), .new 192 [(.int .i64 0), (.int .i64 0), .nilsl, .nilsl], none, []⟩,
  ⟨none, .store 4 (.t 3) (.t 10), none, [6, 5, 4, 0, 1, 2, 3, 4, 5, 6]⟩])
(.seq (.reg false [⟨(some 4), .mv (.d (.int .i64 0)), none, []⟩])
(.block 0 (.loop (.seq (.seq (.reg false [⟨(some 11), .mv (.t 4), none, []⟩,
  ⟨(some 12), .bin .leq (.t 11) (.d (.int .i64 1023)), none, [0]⟩])
(.cond (.t 12)
 .skip
 (.exit 0)))
(.seq (.block 1 (.seq (.seq (.reg false [⟨(some 15), .mv (.t 0), none, []⟩,
  ⟨(some 16), .mv (.t 4), none, []⟩,
  ⟨(some 17), .load true 4 (.t 3), none, []⟩,
  ⟨(some 18), .callv (.t 15) [(.t 16), (.t 17)], none, [0, 1, 2]⟩,
  ⟨(some 19), .un .not (.t 18), none, [3]⟩])
(.cond (.t 19)
 .ret
 .skip))
(.reg false [⟨(some 20), .load true 4 (.t 3), none, []⟩,
  ⟨(some 21), .load false 1 (.t 1), none, []⟩,
  ⟨(some 22), .call 149 [(.t 20), (.t 21)], none, [0, 1]⟩,
  ⟨none, .store 4 (.t 3) (.t 22), none, [2, 2, 0, 1, 2]⟩])))
(.reg false [⟨(some 13), .mv (.t 4), none, []⟩,
  ⟨(some 14), .bin .add (.t 13) (.d (.int .i64 1)), none, [0]⟩,
  ⟨(some 4), .mv (.t 14), none, [1, 0, 1]⟩])))))))
theorem r_yu_walk_1 : fnOf Try.prog n_yu_walk_1 = some (c_yu_walk_1, [], 23, false) := by kernel_rfl

/-- tallymark/yu.At -/
abbrev n_yu_At : FuncId := 146
def c_yu_At : C := (.seq (.reg false [⟨(some 3), .box 3 (.t 1), none, []⟩,
  ⟨(some 4), .new 192 [(.int .i64 0), (.int .i64 0), .nilsl, .nilsl], none, []⟩,
  ⟨(some 5), .mv (.d (.int .i64 0)), none, []⟩])
(.seq (.block 0 (.seq (.reg false [⟨(some 10), .mv (.t 0), none, []⟩,
  ⟨(some 11), .call 144 [(.t 10)], none, [0]⟩,
  ⟨(some 12), .un .not (.t 11), none, [1]⟩,
  ⟨(some 9), .mv (.t 12), none, [2, 1]⟩])
(.cond (.t 9)
 (.seq (.reg false [⟨(some 13), .build [(.int .i64 0), (.int .i64 0), .nilsl, .nilsl] [], none, []⟩,
   ⟨none, .store 4 (.t 4) (.t 13), none, [0, 0]⟩,
   ⟨(some 5), .mv (.d (.int .i64 10)), none, [1, 0, 1]⟩])
 .ret)
 (.seq (.reg false [⟨(some 15), .load false 1 (.t 3), none, []⟩,
   ⟨(some 16), .bin .lss (.t 15) (.d (.int .i64 0)), none, [0]⟩,
   ⟨(some 17), .mv (.t 16), none, [1]⟩,
   ⟨(some 18), .load false 1 (.t 3), some (17, false), [2]⟩,
   ⟨(some 19), .bin .gtr (.t 18) (.d (.int .i64 1023)), some (17, false), [3, 2]⟩,
   ⟨(some 20), .pick (.t 17) (.d (.bool true)) (.t 19), none, [2, 4]⟩,
   ⟨(some 14), .mv (.t 20), none, [5, 2]⟩])
 (.cond (.t 14)
  (.seq (.reg false [⟨(some 21), .build [(.int .i64 0), (.int .i64 0), .nilsl, .nilsl] [], none, []⟩,
    ⟨none, .store 4 (.t 4) (.t 21), none, [0, 0]⟩,
    ⟨(some 5), .mv (.d (.int .i64 2)), none, [1, 0, 1]⟩])
  .ret)
  .skip)))))
(.seq (.reg false [⟨(some 6), .new 192 [(.int .i64 0), (.int .i64 0), .nilsl, .nilsl], none, []⟩])
(.seq (.seq (.reg false [⟨(some 22), .mv (.t 0), none, []⟩,
  ⟨(some 23), .call 147 [(.t 22)], none, [0]⟩])
(.block 1 .bad))
(.seq (.reg false [⟨(some 30), .load true 4 (.t 6), none, []⟩,
  ⟨none, .store 4 (.t 4) (.t 30), none, [0, 0]⟩,
  ⟨(some 5), .mv (.d (.int .i64 0)), none, [1, 0, 1]⟩])
.ret)))))
theorem r_yu_At : fnOf Try.prog n_yu_At = some (c_yu_At, [.cell 4 true 4, .t 5], 31, false) := by kernel_rfl

/-- tallymark/tallymarklaw15.ChainSplits -/
abbrev n_Tlaw15_ChainSplits : FuncId := 4
def c_Tlaw15_ChainSplits : C := (.seq (.reg false [⟨(some 3), .box 67 (.t 0), none, []⟩,
  ⟨(some 5), .box 68 (.t 2), none, []⟩,
  ⟨(some 6), .mv (.d (.bool false)), none, []⟩])
(.seq (.seq (.reg false [⟨(some 19), .call 26 [], none, []⟩,
  ⟨(some 20), .un .not (.t 19), none, [0]⟩])
(.cond (.t 20)
 (.seq (.reg false [⟨(some 6), .mv (.d (.bool false)), none, []⟩])
 .ret)
 .skip))
(.seq (.reg false [⟨(some 21), .load true 3 (.t 3), none, []⟩,
  ⟨(some 22), .call 27 [(.t 21), (.d (.int .i64 4))], none, [0]⟩,
  ⟨none, .store 3 (.t 3) (.t 22), none, [1, 1, 0, 1]⟩])
(.seq (.reg false [⟨(some 23), .mv (.t 1), none, []⟩,
  ⟨(some 24), .call 28 [(.t 23), (.d (.int .i64 200))], none, [0]⟩,
  ⟨(some 1), .mv (.t 24), none, [1, 1, 0, 1]⟩])
(.seq (.reg false [⟨(some 25), .load true 3 (.t 3), none, []⟩,
  ⟨(some 26), .call 29 [(.t 25)], none, [0]⟩,
  ⟨(some 7), .new 71 [(.int .i64 0), (.int .i64 0), (.int .i64 0)], none, []⟩,
  ⟨none, .store 3 (.t 7) (.t 26), none, [2, 1, 1, 0, 1, 2]⟩])
(.seq (.reg true [⟨(some 27), .ixa 3 1 (.t 5) (.d (.int .i64 0)), none, []⟩,
  ⟨(some 28), .load false 1 (.t 27), none, [0]⟩,
  ⟨(some 29), .bin .and (.t 28) (.d (.int .i64 15)), none, [1]⟩,
  ⟨(some 30), .ixa 3 1 (.t 5) (.d (.int .i64 1)), none, []⟩,
  ⟨(some 31), .load false 1 (.t 30), none, [3]⟩,
  ⟨(some 32), .bin .and (.t 31) (.d (.int .i64 15)), none, [4]⟩,
  ⟨(some 8), .mv (.t 29), none, [2, 0, 1, 2]⟩,
  ⟨(some 9), .mv (.t 32), none, [5, 6, 0, 1, 2, 3, 4, 5, 6]⟩])
(.seq (.reg true [⟨(some 33), .ixa 3 1 (.t 5) (.d (.int .i64 2)), none, []⟩,
  ⟨(some 34), .load false 1 (.t 33), none, [0]⟩,
  ⟨(some 35), .bin .and (.t 34) (.d (.int .i64 15)), none, [1]⟩,
  ⟨(some 36), .load true 3 (.t 3), none, []⟩,
  ⟨(some 37), .call 30 [(.t 36)], none, [3]⟩,
  ⟨(some 38), .bin .add (.t 37) (.d (.int .i64 1)), none, [4]⟩,
  ⟨(some 39), .bin .rem (.t 35) (.t 38), none, [2, 5]⟩,
  ⟨(some 40), .build [(.int .i64 0), (.bool false)] [(0, 1, (.t 39))], none, [6]⟩,
  ⟨(some 10), .new 75 [(.int .i64 0), (.bool false)], none, []⟩,
  ⟨none, .store 2 (.t 10) (.t 40), none, [8, 7, 4, 0, 1, 2, 3, 4, 5, 6, 7, 8]⟩])
(.seq (.reg false [⟨(some 41), .mv (.t 1), none, []⟩,
  ⟨(some 42), .call 31 [(.t 41)], none, [0]⟩,
  ⟨(some 43), .mv (.t 1), none, []⟩,
  ⟨(some 44), .call 31 [(.t 43)], none, [2, 1]⟩,
  ⟨(some 11), .mv (.t 42), none, [1, 3, 0, 1]⟩,
  ⟨(some 12), .mv (.t 44), none, [3, 4, 0, 1, 2, 3, 4]⟩])
(.seq (.reg false [⟨(some 46), .load true 3 (.t 7), none, []⟩,
  ⟨(some 47), .mv (.t 11), none, []⟩,
  ⟨(some 48), .load true 2 (.t 10), none, []⟩,
  ⟨(some 49), .mv (.t 8), none, []⟩,
  ⟨(some 50), .mv (.t 9), none, []⟩,
  ⟨(some 51), .bin .add (.t 49) (.t 50), none, [3, 4]⟩,
  ⟨(some 52), .call 32 [(.t 46), (.t 47), (.t 48), (.t 51)], none, [0, 1, 2, 5]⟩,
  ⟨(some 45), .mv (.t 52), none, [6]⟩,
  ⟨(some 53), .ext (.t 45) 0, none, [7]⟩,
  ⟨(some 54), .ext (.t 45) 1, none, [7]⟩,
  ⟨(some 13), .new 75 [(.int .i64 0), (.bool false)], none, []⟩,
  ⟨none, .store 2 (.t 13) (.t 53), none, [10, 8, 6, 0, 1, 2, 3, 4, 5, 6, 7, 8, 10]⟩,
  ⟨(some 14), .mv (.t 54), none, [9, 11, 0, 1, 2, 3, 4, 5, 6, 7, 8, 9, 10, 11]⟩])
(.seq (.reg false [⟨(some 56), .load true 3 (.t 7), none, []⟩,
  ⟨(some 57), .mv (.t 12), none, []⟩,
  ⟨(some 58), .load true 2 (.t 10), none, []⟩,
  ⟨(some 59), .mv (.t 8), none, []⟩,
  ⟨(some 60), .call 32 [(.t 56), (.t 57), (.t 58), (.t 59)], none, [0, 1, 2, 3]⟩,
  ⟨(some 55), .mv (.t 60), none, [4]⟩,
  ⟨(some 61), .ext (.t 55) 0, none, [5]⟩,
  ⟨(some 62), .ext (.t 55) 1, none, [5]⟩,
  ⟨(some 15), .new 75 [(.int .i64 0), (.bool false)], none, []⟩,
  ⟨none, .store 2 (.t 15) (.t 61), none, [8, 6, 4, 0, 1, 2, 3, 4, 5, 6, 8]⟩,
  ⟨(some 16), .mv (.t 62), none, [7, 9, 0, 1, 2, 3, 4, 5, 6, 7, 8, 9]⟩])
(.seq (.seq (.reg false [⟨(some 63), .mv (.t 16), none, []⟩,
  ⟨(some 64), .bin .neq (.t 63) (.d (.int .i64 0)), none, [0]⟩])
(.cond (.t 64)
 (.seq (.reg false [⟨(some 65), .mv (.t 14), none, []⟩,
   ⟨(some 66), .mv (.t 16), none, []⟩,
   ⟨(some 67), .bin .eql (.t 65) (.t 66), none, [0, 1]⟩,
   ⟨(some 68), .mv (.t 67), none, [2]⟩,
   ⟨(some 69), .load true 2 (.t 13), some (68, true), [3]⟩,
   ⟨(some 70), .load true 2 (.t 10), some (68, true), [3]⟩,
   ⟨(some 71), .aeq false [0, 1] (.t 69) (.t 70), some (68, true), [4, 5, 3]⟩,
   ⟨(some 72), .pick (.t 68) (.t 71) (.d (.bool false)), none, [3, 6]⟩,
   ⟨(some 73), .mv (.t 72), none, [7, 3]⟩,
   ⟨(some 74), .load true 2 (.t 15), some (73, true), [8]⟩,
   ⟨(some 75), .load true 2 (.t 10), some (73, true), [8]⟩,
   ⟨(some 76), .aeq false [0, 1] (.t 74) (.t 75), some (73, true), [9, 10, 8]⟩,
   ⟨(some 77), .pick (.t 73) (.t 76) (.d (.bool false)), none, [8, 11]⟩,
   ⟨(some 6), .mv (.t 77), none, [12, 8, 0, 1, 2, 3, 4, 5, 6, 7, 8, 9, 10, 11, 12]⟩])
 .ret)
 .skip))
(.seq (.reg false [⟨(some 79), .load true 3 (.t 7), none, []⟩,
  ⟨(some 80), .mv (.t 12), none, []⟩,
  ⟨(some 81), .load true 2 (.t 15), none, []⟩,
  ⟨(some 82), .mv (.t 9), none, []⟩,
  ⟨(some 83), .call 32 [(.t 79), (.t 80), (.t 81), (.t 82)], none, [0, 1, 2, 3]⟩,
  ⟨(some 78), .mv (.t 83), none, [4]⟩,
  ⟨(some 84), .ext (.t 78) 0, none, [5]⟩,
  ⟨(some 85), .ext (.t 78) 1, none, [5]⟩,
  ⟨(some 17), .new 75 [(.int .i64 0), (.bool false)], none, []⟩,
  ⟨none, .store 2 (.t 17) (.t 84), none, [8, 6, 4, 0, 1, 2, 3, 4, 5, 6, 8]⟩,
  ⟨(some 18), .mv (.t 85), none, [7, 9, 0, 1, 2, 3, 4, 5, 6, 7, 8, 9]⟩])
(.seq (.seq (.reg false [⟨(some 86), .mv (.t 18), none, []⟩,
  ⟨(some 87), .bin .neq (.t 86) (.d (.int .i64 0)), none, [0]⟩])
(.cond (.t 87)
 (.seq (.reg false [⟨(some 88), .mv (.t 14), none, []⟩,
   ⟨(some 89), .mv (.t 18), none, []⟩,
   ⟨(some 90), .bin .eql (.t 88) (.t 89), none, [0, 1]⟩,
   ⟨(some 91), .mv (.t 90), none, [2]⟩,
   ⟨(some 92), .load true 2 (.t 13), some (91, true), [3]⟩,
   ⟨(some 93), .load true 2 (.t 10), some (91, true), [3]⟩,
   ⟨(some 94), .aeq false [0, 1] (.t 92) (.t 93), some (91, true), [4, 5, 3]⟩,
   ⟨(some 95), .pick (.t 91) (.t 94) (.d (.bool false)), none, [3, 6]⟩,
   ⟨(some 96), .mv (.t 95), none, [7, 3]⟩,
   ⟨(some 97), .load true 2 (.t 17), some (96, true), [8]⟩,
   ⟨(some 98), .load true 2 (.t 15), some (96, true), [8]⟩,
   ⟨(some 99), .aeq false [0, 1] (.t 97) (.t 98), some (96, true), [9, 10, 8]⟩,
   ⟨(some 100), .pick (.t 96) (.t 99) (.d (.bool false)), none, [8, 11]⟩,
   ⟨(some 6), .mv (.t 100), none, [12, 8, 0, 1, 2, 3, 4, 5, 6, 7, 8, 9, 10, 11, 12]⟩])
 .ret)
 .skip))
(.seq (.reg false [⟨(some 101), .mv (.t 14), none, []⟩,
  ⟨(some 102), .bin .eql (.t 101) (.d (.int .i64 0)), none, [0]⟩,
  ⟨(some 103), .mv (.t 102), none, [1]⟩,
  ⟨(some 104), .load true 2 (.t 13), some (103, true), [2]⟩,
  ⟨(some 105), .load true 2 (.t 17), some (103, true), [2]⟩,
  ⟨(some 106), .aeq false [0, 1] (.t 104) (.t 105), some (103, true), [3, 4, 2]⟩,
  ⟨(some 107), .pick (.t 103) (.t 106) (.d (.bool false)), none, [2, 5]⟩,
  ⟨(some 108), .mv (.t 107), none, [6, 2]⟩,
  ⟨(some 109), .mv (.t 11), some (108, true), [7]⟩,
  ⟨(some 110), .call 33 [(.t 109)], some (108, true), [8, 7, 7]⟩,
  ⟨(some 111), .mv (.t 12), some (108, true), [7]⟩,
  ⟨(some 112), .call 33 [(.t 111)], some (108, true), [10, 9, 7]⟩,
  ⟨(some 113), .bin .eql (.t 110) (.t 112), some (108, true), [9, 11, 7]⟩,
  ⟨(some 114), .pick (.t 108) (.t 113) (.d (.bool false)), none, [7, 12]⟩,
  ⟨(some 115), .mv (.t 114), none, [13, 11]⟩,
  ⟨(some 116), .fa 0 (.t 13), some (115, true), [14]⟩,
  ⟨(some 117), .load false 1 (.t 116), some (115, true), [15, 14]⟩,
  ⟨(some 118), .fa 0 (.t 10), some (115, true), [14]⟩,
  ⟨(some 119), .load false 1 (.t 118), some (115, true), [17, 14]⟩,
  ⟨(some 120), .bin .geq (.t 117) (.t 119), some (115, true), [16, 18, 14]⟩,
  ⟨(some 121), .pick (.t 115) (.t 120) (.d (.bool false)), none, [14, 19]⟩,
  ⟨(some 6), .mv (.t 121), none, [20, 14, 0, 1, 2, 3, 4, 5, 6, 7, 8, 9, 10, 11, 12, 13, 14, 15, 16, 17, 18, 19, 20]⟩])
.ret))))))))))))))
theorem r_Tlaw15_ChainSplits : fnOf Try.prog n_Tlaw15_ChainSplits = some (c_Tlaw15_ChainSplits, [.t 6], 122, false) := by kernel_rfl

/-- tallymark/tallymarklaw15.awake -/
abbrev n_Tlaw15_awake : FuncId := 26
def c_Tlaw15_awake : C := (.seq (.reg false [⟨(some 0), .mv (.d (.bool false)), none, []⟩])
(.seq (.reg false [⟨(some 5), .build [(.int .i64 0), (.int .i64 0), (.int .i64 0)] [(0, 1, (.d (.int .i64 1))), (1, 1, (.d (.int .i64 1))), (2, 1, (.d (.int .i64 2)))], none, []⟩,
  ⟨(some 1), .new 71 [(.int .i64 0), (.int .i64 0), (.int .i64 0)], none, []⟩,
  ⟨none, .store 3 (.t 1) (.t 5), none, [1, 0, 0, 1]⟩])
(.seq (.reg false [⟨(some 6), .call 31 [(.d .nilsl)], none, []⟩,
  ⟨(some 2), .mv (.t 6), none, [0, 0, 0]⟩])
(.seq (.reg false [⟨(some 8), .load true 3 (.t 1), none, []⟩,
  ⟨(some 9), .mv (.t 2), none, []⟩,
  ⟨(some 10), .build [(.int .i64 0), (.bool false)] [], none, []⟩,
  ⟨(some 11), .call 48 [(.t 8), (.t 9), (.t 10)], none, [0, 1, 2]⟩,
  ⟨(some 7), .mv (.t 11), none, [3]⟩,
  ⟨(some 12), .ext (.t 7) 0, none, [4]⟩,
  ⟨(some 13), .ext (.t 7) 1, none, [4]⟩,
  ⟨(some 3), .new 75 [(.int .i64 0), (.bool false)], none, []⟩,
  ⟨none, .store 2 (.t 3) (.t 12), none, [7, 5, 3, 0, 1, 2, 3, 4, 5, 7]⟩,
  ⟨(some 4), .mv (.t 13), none, [6, 8, 0, 1, 2, 3, 4, 5, 6, 7, 8]⟩])
(.seq (.reg false [⟨(some 14), .load true 3 (.t 1), none, []⟩,
  ⟨(some 15), .call 49 [(.t 14)], none, [0]⟩,
  ⟨(some 16), .bin .eql (.t 15) (.d (.int .i64 0)), none, [1]⟩,
  ⟨(some 17), .mv (.t 16), none, [2, 1]⟩,
  ⟨(some 18), .load true 3 (.t 1), some (17, true), [3]⟩,
  ⟨(some 19), .call 50 [(.t 18)], some (17, true), [4, 3, 3]⟩,
  ⟨(some 20), .bin .eql (.t 19) (.d (.int .i64 3)), some (17, true), [5, 3]⟩,
  ⟨(some 21), .pick (.t 17) (.t 20) (.d (.bool false)), none, [3, 6]⟩,
  ⟨(some 22), .mv (.t 21), none, [7, 5]⟩,
  ⟨(some 23), .mv (.t 4), some (22, true), [8]⟩,
  ⟨(some 24), .bin .eql (.t 23) (.d (.int .i64 0)), some (22, true), [9, 8]⟩,
  ⟨(some 25), .pick (.t 22) (.t 24) (.d (.bool false)), none, [8, 10]⟩,
  ⟨(some 26), .mv (.t 25), none, [11, 8]⟩,
  ⟨(some 27), .fa 0 (.t 3), some (26, true), [12]⟩,
  ⟨(some 28), .load false 1 (.t 27), some (26, true), [13, 12]⟩,
  ⟨(some 29), .bin .eql (.t 28) (.d (.int .i64 1)), some (26, true), [14, 12]⟩,
  ⟨(some 30), .pick (.t 26) (.t 29) (.d (.bool false)), none, [12, 15]⟩,
  ⟨(some 31), .mv (.t 30), none, [16, 12]⟩,
  ⟨(some 32), .fa 1 (.t 3), some (31, true), [17]⟩,
  ⟨(some 33), .load false 1 (.t 32), some (31, true), [18, 17]⟩,
  ⟨(some 34), .un .not (.t 33), some (31, true), [19, 17]⟩,
  ⟨(some 35), .pick (.t 31) (.t 34) (.d (.bool false)), none, [17, 20]⟩,
  ⟨(some 0), .mv (.t 35), none, [21, 17, 0, 1, 2, 3, 4, 5, 6, 7, 8, 9, 10, 11, 12, 13, 14, 15, 16, 17, 18, 19, 20, 21]⟩])
.ret)))))
theorem r_Tlaw15_awake : fnOf Try.prog n_Tlaw15_awake = some (c_Tlaw15_awake, [.t 0], 36, false) := by kernel_rfl

/-- tallymark/tallymarklaw15.small -/
abbrev n_Tlaw15_small : FuncId := 27
def c_Tlaw15_small : C := (.seq (.reg false [⟨(some 2), .box 67 (.t 0), none, []⟩,
  ⟨(some 4), .new 67 [(.int .i64 0), (.int .i64 0), (.int .i64 0)], none, []⟩])
(.seq (.reg false [⟨(some 5), .fa 0 (.t 2), none, []⟩,
  ⟨(some 6), .load false 1 (.t 5), none, [0]⟩,
  ⟨(some 7), .bin .rem (.t 6) (.d (.int .i64 3)), none, [1]⟩,
  ⟨(some 8), .bin .add (.t 7) (.d (.int .i64 3)), none, [2]⟩,
  ⟨(some 9), .bin .rem (.t 8) (.d (.int .i64 3)), none, [3]⟩,
  ⟨(some 10), .bin .add (.d (.int .i64 1)) (.t 9), none, [4]⟩,
  ⟨(some 11), .fa 0 (.t 2), none, [0, 1, 2, 3, 4, 5]⟩,
  ⟨none, .store 1 (.t 11) (.t 10), none, [6, 5, 0, 1, 2, 3, 4, 5]⟩])
(.seq (.reg false [⟨(some 12), .fa 2 (.t 2), none, []⟩,
  ⟨(some 13), .load false 1 (.t 12), none, [0]⟩,
  ⟨(some 14), .mv (.t 1), none, []⟩,
  ⟨(some 15), .bin .rem (.t 13) (.t 14), none, [1, 2]⟩,
  ⟨(some 16), .mv (.t 1), none, []⟩,
  ⟨(some 17), .bin .add (.t 15) (.t 16), none, [3, 4]⟩,
  ⟨(some 18), .mv (.t 1), none, []⟩,
  ⟨(some 19), .bin .rem (.t 17) (.t 18), none, [5, 6]⟩,
  ⟨(some 20), .bin .add (.d (.int .i64 1)) (.t 19), none, [7]⟩,
  ⟨(some 21), .fa 2 (.t 2), none, [0, 1, 2, 3, 4, 5, 6, 7, 8]⟩,
  ⟨none, .store 1 (.t 21) (.t 20), none, [9, 8, 0, 1, 2, 3, 4, 5, 6, 7, 8]⟩])
(.seq (.seq (.reg false [⟨(some 22), .fa 0 (.t 2), none, []⟩,
  ⟨(some 23), .load false 1 (.t 22), none, [0]⟩])
(.block 0 (.seq (.reg false [⟨(some 30), .bin .eql (.t 23) (.d (.int .i64 1)), none, []⟩,
  ⟨(some 29), .mv (.t 30), none, [0]⟩])
(.cond (.t 29)
 (.reg false [⟨(some 31), .fa 1 (.t 2), none, []⟩,
   ⟨(some 32), .load false 1 (.t 31), none, [0]⟩,
   ⟨(some 33), .bin .and (.t 32) (.d (.int .i64 3)), none, [1]⟩,
   ⟨(some 34), .bin .add (.d (.int .i64 1)) (.t 33), none, [2]⟩,
   ⟨(some 35), .fa 1 (.t 2), none, [0, 1, 2, 3]⟩,
   ⟨none, .store 1 (.t 35) (.t 34), none, [4, 3, 0, 1, 2, 3]⟩])
 (.seq (.reg false [⟨(some 37), .bin .eql (.t 23) (.d (.int .i64 2)), none, []⟩,
   ⟨(some 36), .mv (.t 37), none, [0]⟩])
 (.cond (.t 36)
  (.reg false [⟨(some 38), .fa 1 (.t 2), none, []⟩,
    ⟨(some 39), .load false 1 (.t 38), none, [0]⟩,
    ⟨(some 40), .bin .and (.t 39) (.d (.int .i64 1)), none, [1]⟩,
    ⟨(some 41), .fa 1 (.t 2), none, [0, 1, 2]⟩,
    ⟨none, .store 1 (.t 41) (.t 40), none, [3, 2, 0, 1, 2]⟩])
  (.reg false [⟨(some 24), .fa 1 (.t 2), none, []⟩,
    ⟨(some 25), .load false 1 (.t 24), none, [0]⟩,
    ⟨(some 26), .bin .and (.t 25) (.d (.int .i64 1)), none, [1]⟩,
    ⟨(some 27), .bin .add (.d (.int .i64 1)) (.t 26), none, [2]⟩,
    ⟨(some 28), .fa 1 (.t 2), none, [0, 1, 2, 3]⟩,
    ⟨none, .store 1 (.t 28) (.t 27), none, [4, 3, 0, 1, 2, 3]⟩])))))))
(.seq (.reg false [⟨(some 42), .load true 3 (.t 2), none, []⟩,
  ⟨none, .store 3 (.t 4) (.t 42), none, [0, 0]⟩])
.ret)))))
theorem r_Tlaw15_small : fnOf Try.prog n_Tlaw15_small = some (c_Tlaw15_small, [.cell 4 true 3], 43, false) := by kernel_rfl

/-- tallymark/tallymarklaw15.Own -/
abbrev n_Tlaw15_Own : FuncId := 29
def c_Tlaw15_Own : C := (.seq (.reg false [⟨(some 1), .box 67 (.t 0), none, []⟩,
  ⟨(some 2), .new 71 [(.int .i64 0), (.int .i64 0), (.int .i64 0)], none, []⟩])
(.seq (.reg false [⟨(some 3), .fa 0 (.t 1), none, []⟩,
  ⟨(some 4), .load false 1 (.t 3), none, [0]⟩,
  ⟨(some 5), .fa 1 (.t 1), none, []⟩,
  ⟨(some 6), .load false 1 (.t 5), none, [2]⟩,
  ⟨(some 7), .fa 2 (.t 1), none, []⟩,
  ⟨(some 8), .load false 1 (.t 7), none, [4]⟩,
  ⟨(some 9), .build [(.int .i64 0), (.int .i64 0), (.int .i64 0)] [(0, 1, (.t 4)), (1, 1, (.t 6)), (2, 1, (.t 8))], none, [1, 3, 5]⟩,
  ⟨none, .store 3 (.t 2) (.t 9), none, [6, 0, 1, 2, 3, 4, 5, 6]⟩])
.ret))
theorem r_Tlaw15_Own : fnOf Try.prog n_Tlaw15_Own = some (c_Tlaw15_Own, [.cell 2 true 3], 10, false) := by kernel_rfl

/-- (tallymark/chain.Param).Add -/
abbrev n_chain_Param_Add : FuncId := 32
def c_chain_Param_Add : C := (.seq (.reg false [⟨(some 4), .box 71 (.t 0), none, []⟩,
  ⟨(some 5), .box 76 (.t 1), none, []⟩,
  ⟨(some 6), .box 75 (.t 2), none, []⟩,
  ⟨(some 8), .new 75 [(.int .i64 0), (.bool false)], none, []⟩,
  ⟨(some 9), .mv (.d (.int .i64 0)), none, []⟩])
(.seq (.seq (.reg false [⟨(some 14), .load true 3 (.t 4), none, []⟩,
  ⟨(some 15), .fa 0 (.t 6), none, []⟩,
  ⟨(some 16), .load false 1 (.t 15), none, [1]⟩,
  ⟨(some 17), .bsl 3 1 1 [(.int .i64 0)] [(0, 1, (.t 16))], none, [2]⟩,
  ⟨(some 18), .call 53 [(.t 14), (.t 17)], none, [0, 3]⟩,
  ⟨(some 10), .mv (.t 18), none, [4, 4, 0, 1, 2, 3, 4]⟩])
(.seq (.reg false [⟨(some 19), .mv (.t 10), none, []⟩,
  ⟨(some 20), .bin .neq (.t 19) (.d (.int .i64 0)), none, [0]⟩])
(.cond (.t 20)
 (.seq (.reg false [⟨(some 21), .load true 2 (.t 6), none, []⟩,
   ⟨(some 22), .mv (.t 10), none, []⟩,
   ⟨none, .store 2 (.t 8) (.t 21), none, [0, 0]⟩,
   ⟨(some 9), .mv (.t 22), none, [1, 2, 0, 1, 2]⟩])
 .ret)
 .skip)))
(.seq (.seq (.reg false [⟨(some 23), .mv (.t 3), none, []⟩,
  ⟨(some 24), .bin .gtr (.t 23) (.d (.int .i64 1048576)), none, [0]⟩])
(.cond (.t 24)
 (.seq (.reg false [⟨(some 25), .load true 2 (.t 6), none, []⟩,
   ⟨none, .store 2 (.t 8) (.t 25), none, [0, 0]⟩,
   ⟨(some 9), .mv (.d (.int .i64 2)), none, [1, 0, 1]⟩])
 .ret)
 .skip))
(.seq (.reg false [⟨(some 26), .load true 3 (.t 4), none, []⟩,
  ⟨(some 27), .call 54 [(.t 26)], none, [0]⟩,
  ⟨(some 11), .new 112 [.nilifc], none, []⟩,
  ⟨none, .store 1 (.t 11) (.t 27), none, [2, 1, 1, 0, 1, 2]⟩])
(.seq (.reg false [⟨(some 28), .load true 2 (.t 6), none, []⟩,
  ⟨(some 12), .new 75 [(.int .i64 0), (.bool false)], none, []⟩,
  ⟨none, .store 2 (.t 12) (.t 28), none, [1, 0, 0, 1]⟩,
  ⟨(some 13), .mv (.d (.int .i64 0)), none, [2, 0, 1, 2]⟩])
(.seq (.seq (.reg false [⟨(some 29), .mv (.t 3), none, []⟩,
  ⟨(some 30), .mm true [(.d (.int .i64 0)), (.t 29)], none, [0]⟩,
  ⟨(some 31), .mv (.d (.int .i64 0)), none, []⟩])
(.block 0 (.loop (.seq (.reg false [⟨(some 32), .bin .lss (.t 31) (.t 30), none, []⟩])
(.seq (.cond (.t 32)
 .skip
 (.exit 0))
(.seq (.block 1 (.seq (.reg false [⟨(some 34), .load true 3 (.t 4), none, []⟩,
  ⟨(some 35), .load true 2 (.t 12), none, []⟩,
  ⟨(some 36), .mkf (.func 56) [(.t 11), (.t 5)], none, []⟩,
  ⟨(some 37), .call 55 [(.t 34), (.t 35), (.t 36)], none, [0, 1, 2]⟩,
  ⟨(some 33), .mv (.t 37), none, [3]⟩,
  ⟨(some 38), .ext (.t 33) 0, none, [4]⟩,
  ⟨(some 39), .ext (.t 33) 1, none, [4]⟩,
  ⟨none, .store 2 (.t 12) (.t 38), none, [5, 3, 0, 1, 2, 3, 4, 5]⟩,
  ⟨(some 13), .mv (.t 39), none, [6, 7, 0, 1, 2, 3, 4, 5, 6, 7]⟩])
(.seq (.seq (.reg false [⟨(some 40), .mv (.t 13), none, []⟩,
  ⟨(some 41), .bin .neq (.t 40) (.d (.int .i64 0)), none, [0]⟩])
(.cond (.t 41)
 (.seq (.reg false [⟨(some 42), .load true 2 (.t 6), none, []⟩,
   ⟨(some 43), .mv (.t 13), none, []⟩,
   ⟨none, .store 2 (.t 8) (.t 42), none, [0, 0]⟩,
   ⟨(some 9), .mv (.t 43), none, [1, 2, 0, 1, 2]⟩])
 .ret)
 .skip))
(.seq (.reg true [⟨(some 44), .fa 1 (.t 12), none, []⟩,
  ⟨(some 45), .load false 1 (.t 44), none, [0]⟩,
  ⟨(some 46), .mv (.t 45), none, [1]⟩,
  ⟨(some 47), .fa 0 (.t 12), some (46, true), [2]⟩,
  ⟨(some 48), .load false 1 (.t 47), some (46, true), [3, 2]⟩,
  ⟨(some 49), .load true 3 (.t 4), some (46, true), [2]⟩,
  ⟨(some 50), .call 50 [(.t 49)], some (46, true), [5, 2, 2]⟩,
  ⟨(some 51), .bin .eql (.t 48) (.t 50), some (46, true), [4, 6, 2]⟩,
  ⟨(some 52), .pick (.t 46) (.t 51) (.d (.bool false)), none, [2, 7]⟩])
(.cond (.t 52)
 (.exit 0)
 .skip)))))
(.reg false [⟨(some 53), .bin .add (.t 31) (.d (.int .i64 1)), none, []⟩,
  ⟨(some 31), .mv (.t 53), none, [0]⟩])))))))
(.seq (.reg false [⟨(some 54), .load true 2 (.t 12), none, []⟩,
  ⟨none, .store 2 (.t 8) (.t 54), none, [0, 0]⟩,
  ⟨(some 9), .mv (.d (.int .i64 0)), none, [1, 0, 1]⟩])
.ret)))))))
theorem r_chain_Param_Add : fnOf Try.prog n_chain_Param_Add = some (c_chain_Param_Add, [.cell 8 true 2, .t 9], 55, false) := by kernel_rfl

/-- (tallymark/chain.Param).Inc -/
abbrev n_chain_Param_Inc : FuncId := 48
def c_chain_Param_Inc : C := (.seq (.reg false [⟨(some 3), .box 71 (.t 0), none, []⟩,
  ⟨(some 5), .box 75 (.t 2), none, []⟩,
  ⟨(some 6), .new 75 [(.int .i64 0), (.bool false)], none, []⟩,
  ⟨(some 7), .mv (.d (.int .i64 0)), none, []⟩])
(.seq (.reg false [⟨(some 8), .load true 3 (.t 3), none, []⟩,
  ⟨(some 9), .mv (.t 1), none, []⟩,
  ⟨(some 10), .load true 2 (.t 5), none, []⟩,
  ⟨(some 11), .call 32 [(.t 8), (.t 9), (.t 10), (.d (.int .i64 1))], none, [0, 1, 2]⟩,
  ⟨(some 12), .ext (.t 11) 0, none, [3]⟩,
  ⟨(some 13), .ext (.t 11) 1, none, [3]⟩,
  ⟨none, .store 2 (.t 6) (.t 12), none, [4, 3, 0, 1, 2, 3, 4, 5]⟩,
  ⟨(some 7), .mv (.t 13), none, [5, 6, 0, 1, 2, 3, 4, 5, 6]⟩])
.ret))
theorem r_chain_Param_Inc : fnOf Try.prog n_chain_Param_Inc = some (c_chain_Param_Inc, [.cell 6 true 2, .t 7], 14, false) := by kernel_rfl

/-- (tallymark/chain.Param).Check -/
abbrev n_chain_Param_Check : FuncId := 49
def c_chain_Param_Check : C := (.seq (.reg false [⟨(some 1), .box 71 (.t 0), none, []⟩,
  ⟨(some 2), .mv (.d (.int .i64 0)), none, []⟩])
(.seq (.reg false [⟨(some 4), .load true 3 (.t 1), none, []⟩,
  ⟨(some 5), .call 54 [(.t 4)], none, [0]⟩,
  ⟨(some 3), .mv (.t 5), none, [1, 1, 0, 1]⟩])
(.seq (.seq (.reg false [⟨(some 6), .mv (.t 3), none, []⟩,
  ⟨(some 7), .inl false (.t 6), none, [0]⟩,
  ⟨(some 8), .mv (.t 7), none, [1]⟩,
  ⟨(some 9), .mv (.t 3), some (8, false), [2]⟩,
  ⟨(some 10), .inv (.t 9) "tallymark/chain.good" [], some (8, false), [3, 2, 2]⟩,
  ⟨(some 11), .un .not (.t 10), some (8, false), [4, 2]⟩,
  ⟨(some 12), .pick (.t 8) (.d (.bool true)) (.t 11), none, [2, 5]⟩,
  ⟨(some 13), .mv (.t 12), none, [6, 4]⟩,
  ⟨(some 14), .fa 2 (.t 1), some (13, false), [7]⟩,
  ⟨(some 15), .load false 1 (.t 14), some (13, false), [8, 7]⟩,
  ⟨(some 16), .bin .lss (.t 15) (.d (.int .i64 1)), some (13, false), [9, 7]⟩,
  ⟨(some 17), .pick (.t 13) (.d (.bool true)) (.t 16), none, [7, 10]⟩,
  ⟨(some 18), .mv (.t 17), none, [11, 7]⟩,
  ⟨(some 19), .fa 2 (.t 1), some (18, false), [12]⟩,
  ⟨(some 20), .load false 1 (.t 19), some (18, false), [13, 12]⟩,
  ⟨(some 21), .bin .gtr (.t 20) (.d (.int .i64 10)), some (18, false), [14, 12]⟩,
  ⟨(some 22), .pick (.t 18) (.d (.bool true)) (.t 21), none, [12, 15]⟩])
(.cond (.t 22)
 (.seq (.reg false [⟨(some 2), .mv (.d (.int .i64 10)), none, []⟩])
 .ret)
 .skip))
(.seq (.seq (.reg true [⟨(some 23), .fa 0 (.t 1), none, []⟩,
  ⟨(some 24), .load false 1 (.t 23), none, [0]⟩,
  ⟨(some 25), .bin .eql (.t 24) (.d (.int .i64 1)), none, [1]⟩,
  ⟨(some 26), .mv (.t 25), none, [2]⟩,
  ⟨(some 27), .fa 1 (.t 1), some (26, true), [3]⟩,
  ⟨(some 28), .load false 1 (.t 27), some (26, true), [4, 3]⟩,
  ⟨(some 29), .bin .add (.t 28) (.d (.int .i64 1)), some (26, true), [5, 3]⟩,
  ⟨(some 30), .conv .u64 (.t 29), some (26, true), [6, 3]⟩,
  ⟨(some 31), .call 78 [(.t 30)], some (26, true), [7, 3, 3]⟩,
  ⟨(some 32), .fa 2 (.t 1), some (26, true), [3]⟩,
  ⟨(some 33), .load false 1 (.t 32), some (26, true), [9, 3]⟩,
  ⟨(some 34), .bin .shl (.d (.int .i64 1)) (.t 33), some (26, true), [10, 3]⟩,
  ⟨(some 35), .bin .sub (.t 34) (.d (.int .i64 1)), some (26, true), [11, 3]⟩,
  ⟨(some 36), .bin .mul (.t 31) (.t 35), some (26, true), [8, 12, 3]⟩,
  ⟨(some 37), .bin .gtr (.t 36) (.d (.int .i64 8192)), some (26, true), [13, 3]⟩,
  ⟨(some 38), .pick (.t 26) (.t 37) (.d (.bool false)), none, [3, 14]⟩])
(.cond (.t 38)
 (.seq (.reg false [⟨(some 2), .mv (.d (.int .i64 10)), none, []⟩])
 .ret)
 .skip))
(.seq (.reg false [⟨(some 2), .mv (.d (.int .i64 0)), none, []⟩])
.ret)))))
theorem r_chain_Param_Check : fnOf Try.prog n_chain_Param_Check = some (c_chain_Param_Check, [.t 2], 39, false) := by kernel_rfl

/-- (tallymark/chain.Param).Top -/
abbrev n_chain_Param_Top : FuncId := 50
def c_chain_Param_Top : C := (.seq (.reg false [⟨(some 1), .box 71 (.t 0), none, []⟩,
  ⟨(some 2), .mv (.d (.int .i64 0)), none, []⟩])
(.seq (.seq (.reg false [⟨(some 3), .load true 3 (.t 1), none, []⟩,
  ⟨(some 4), .call 49 [(.t 3)], none, [0]⟩,
  ⟨(some 5), .bin .neq (.t 4) (.d (.int .i64 0)), none, [1]⟩])
(.cond (.t 5)
 (.seq (.reg false [⟨(some 2), .mv (.d (.int .i64 0)), none, []⟩])
 .ret)
 .skip))
(.seq (.reg false [⟨(some 6), .fa 2 (.t 1), none, []⟩,
  ⟨(some 7), .load false 1 (.t 6), none, [0]⟩,
  ⟨(some 8), .bin .shl (.d (.int .i64 1)) (.t 7), none, [1]⟩,
  ⟨(some 9), .bin .sub (.t 8) (.d (.int .i64 1)), none, [2]⟩,
  ⟨(some 2), .mv (.t 9), none, [3, 0, 1, 2, 3]⟩])
.ret)))
theorem r_chain_Param_Top : fnOf Try.prog n_chain_Param_Top = some (c_chain_Param_Top, [.t 2], 10, false) := by kernel_rfl

/-- (tallymark/chain.Param).at -/
abbrev n_chain_Param_at : FuncId := 53
def c_chain_Param_at : C := (.seq (.reg false [⟨(some 2), .box 71 (.t 0), none, []⟩,
  ⟨(some 4), .mv (.d (.int .i64 0)), none, []⟩])
(.seq (.seq (.reg false [⟨(some 8), .load true 3 (.t 2), none, []⟩,
  ⟨(some 9), .call 49 [(.t 8)], none, [0]⟩,
  ⟨(some 5), .mv (.t 9), none, [1, 1, 0, 1]⟩])
(.seq (.reg false [⟨(some 10), .mv (.t 5), none, []⟩,
  ⟨(some 11), .bin .neq (.t 10) (.d (.int .i64 0)), none, [0]⟩])
(.cond (.t 11)
 (.seq (.reg false [⟨(some 12), .mv (.t 5), none, []⟩,
   ⟨(some 4), .mv (.t 12), none, [0, 0]⟩])
 .ret)
 .skip)))
(.seq (.seq (.reg false [⟨(some 13), .mv (.t 1), none, []⟩,
  ⟨(some 14), .len (.t 13), none, [0]⟩,
  ⟨(some 15), .mv (.d (.int .i64 0)), none, []⟩])
(.block 0 (.loop (.seq (.reg false [⟨(some 16), .bin .lss (.t 15) (.t 14), none, []⟩])
(.seq (.cond (.t 16)
 .skip
 (.exit 0))
(.seq (.block 1 (.seq (.reg false [⟨(some 17), .ix 1 (.t 13) (.t 15), none, []⟩,
  ⟨(some 18), .load false 1 (.t 17), none, [0]⟩,
  ⟨(some 7), .mv (.t 18), none, [1, 0, 1]⟩])
(.seq (.reg false [⟨(some 19), .mv (.t 7), none, []⟩,
  ⟨(some 20), .bin .lss (.t 19) (.d (.int .i64 0)), none, [0]⟩,
  ⟨(some 21), .mv (.t 20), none, [1]⟩,
  ⟨(some 22), .mv (.t 7), some (21, false), [2]⟩,
  ⟨(some 23), .load true 3 (.t 2), some (21, false), [2]⟩,
  ⟨(some 24), .call 50 [(.t 23)], some (21, false), [4, 2, 2]⟩,
  ⟨(some 25), .bin .gtr (.t 22) (.t 24), some (21, false), [3, 5, 2]⟩,
  ⟨(some 26), .pick (.t 21) (.d (.bool true)) (.t 25), none, [2, 6]⟩])
(.cond (.t 26)
 (.seq (.reg false [⟨(some 4), .mv (.d (.int .i64 2)), none, []⟩])
 .ret)
 .skip))))
(.reg false [⟨(some 27), .bin .add (.t 15) (.d (.int .i64 1)), none, []⟩,
  ⟨(some 15), .mv (.t 27), none, [0]⟩])))))))
(.seq (.reg false [⟨(some 4), .mv (.d (.int .i64 0)), none, []⟩])
.ret))))
theorem r_chain_Param_at : fnOf Try.prog n_chain_Param_at = some (c_chain_Param_at, [.t 4], 28, false) := by kernel_rfl

/-- (tallymark/chain.Param).kind -/
abbrev n_chain_Param_kind : FuncId := 54
def c_chain_Param_kind : C := (.seq (.reg false [⟨(some 1), .box 71 (.t 0), none, []⟩,
  ⟨(some 2), .mv (.d .nilifc), none, []⟩])
(.seq (.seq (.reg false [⟨(some 3), .fa 0 (.t 1), none, []⟩,
  ⟨(some 4), .load false 1 (.t 3), none, [0]⟩])
(.block 0 (.seq (.reg false [⟨(some 6), .bin .eql (.t 4) (.d (.int .i64 1)), none, []⟩,
  ⟨(some 5), .mv (.t 6), none, [0]⟩])
(.cond (.t 5)
 (.seq (.reg false [⟨(some 7), .fa 1 (.t 1), none, []⟩,
   ⟨(some 8), .load false 1 (.t 7), none, [0]⟩,
   ⟨(some 9), .ifc 145 (.t 8), none, [1]⟩,
   ⟨(some 2), .mv (.t 9), none, [2, 0, 1, 2]⟩])
 .ret)
 (.seq (.reg false [⟨(some 11), .bin .eql (.t 4) (.d (.int .i64 2)), none, []⟩,
   ⟨(some 10), .mv (.t 11), none, [0]⟩])
 (.cond (.t 10)
  (.seq (.reg false [⟨(some 12), .fa 1 (.t 1), none, []⟩,
    ⟨(some 13), .load false 1 (.t 12), none, [0]⟩,
    ⟨(some 14), .ifc 146 (.t 13), none, [1]⟩,
    ⟨(some 2), .mv (.t 14), none, [2, 0, 1, 2]⟩])
  .ret)
  (.seq (.reg false [⟨(some 16), .bin .eql (.t 4) (.d (.int .i64 3)), none, []⟩,
    ⟨(some 15), .mv (.t 16), none, [0]⟩])
  (.cond (.t 15)
   (.seq (.reg false [⟨(some 17), .fa 1 (.t 1), none, []⟩,
     ⟨(some 18), .load false 1 (.t 17), none, [0]⟩,
     ⟨(some 19), .ifc 147 (.t 18), none, [1]⟩,
     ⟨(some 2), .mv (.t 19), none, [2, 0, 1, 2]⟩])
   .ret)
   .skip))))))))
(.seq (.reg false [⟨(some 2), .mv (.d .nilifc), none, []⟩])
.ret)))
theorem r_chain_Param_kind : fnOf Try.prog n_chain_Param_kind = some (c_chain_Param_kind, [.t 2], 20, false) := by kernel_rfl

/-- (tallymark/chain.Param).on -/
abbrev n_chain_Param_on : FuncId := 55
def c_chain_Param_on : C := (.seq (.reg false [⟨(some 3), .box 71 (.t 0), none, []⟩,
  ⟨(some 4), .box 75 (.t 1), none, []⟩,
  ⟨(some 6), .new 75 [(.int .i64 0), (.bool false)], none, []⟩,
  ⟨(some 7), .mv (.d (.int .i64 0)), none, []⟩])
(.seq (.seq (.reg true [⟨(some 10), .fa 0 (.t 4), none, []⟩,
  ⟨(some 11), .load false 1 (.t 10), none, [0]⟩,
  ⟨(some 12), .load true 3 (.t 3), none, []⟩,
  ⟨(some 13), .call 50 [(.t 12)], none, [2]⟩,
  ⟨(some 14), .bin .eql (.t 11) (.t 13), none, [1, 3]⟩])
(.cond (.t 14)
 (.seq (.reg false [⟨(some 15), .fa 1 (.t 4), none, []⟩,
   ⟨none, .store 1 (.t 15) (.d (.bool true)), none, [0]⟩])
 (.seq (.reg false [⟨(some 16), .load true 2 (.t 4), none, []⟩,
   ⟨none, .store 2 (.t 6) (.t 16), none, [0, 0]⟩,
   ⟨(some 7), .mv (.d (.int .i64 0)), none, [1, 0, 1]⟩])
 .ret))
 .skip))
(.seq (.reg false [⟨(some 18), .mv (.t 2), none, []⟩,
  ⟨(some 19), .fa 0 (.t 4), none, []⟩,
  ⟨(some 20), .load false 1 (.t 19), none, [1]⟩,
  ⟨(some 21), .callv (.t 18) [(.t 20)], none, [0, 2]⟩,
  ⟨(some 17), .mv (.t 21), none, [3]⟩,
  ⟨(some 22), .ext (.t 17) 0, none, [4]⟩,
  ⟨(some 23), .ext (.t 17) 1, none, [4]⟩,
  ⟨(some 8), .mv (.t 22), none, [5, 3, 0, 1, 2, 3, 4, 5]⟩,
  ⟨(some 9), .mv (.t 23), none, [6, 7, 0, 1, 2, 3, 4, 5, 6, 7]⟩])
(.seq (.seq (.reg false [⟨(some 24), .mv (.t 8), none, []⟩])
(.cond (.t 24)
 (.reg false [⟨(some 25), .fa 0 (.t 4), none, []⟩,
   ⟨(some 26), .load false 1 (.t 25), none, [0]⟩,
   ⟨(some 27), .bin .add (.t 26) (.d (.int .i64 1)), none, [1]⟩,
   ⟨(some 28), .fa 0 (.t 4), none, [0, 1, 2]⟩,
   ⟨none, .store 1 (.t 28) (.t 27), none, [3, 2, 0, 1, 2]⟩])
 .skip))
(.seq (.reg false [⟨(some 29), .load true 2 (.t 4), none, []⟩,
  ⟨(some 30), .mv (.t 9), none, []⟩,
  ⟨none, .store 2 (.t 6) (.t 29), none, [0, 0]⟩,
  ⟨(some 7), .mv (.t 30), none, [1, 2, 0, 1, 2]⟩])
.ret)))))
theorem r_chain_Param_on : fnOf Try.prog n_chain_Param_on = some (c_chain_Param_on, [.cell 6 true 2, .t 7], 31, false) := by kernel_rfl

/-- (tallymark/chain.Param).Add$1 -/
abbrev n_chain_Param_Add_1 : FuncId := 56
def c_chain_Param_Add_1 : C := (.seq (.reg false [⟨(some 4), .mv (.d (.bool false)), none, []⟩,
  ⟨(some 5), .mv (.d (.int .i64 0)), none, [0]⟩])
(.seq (.reg false [⟨(some 6), .load false 1 (.t 1), none, []⟩,
  ⟨(some 7), .load false 1 (.t 2), none, []⟩,
  ⟨(some 8), .mv (.t 0), none, []⟩,
  ⟨(some 9), .inv (.t 6) "tallymark/chain.step" [(.t 7), (.t 8)], none, [0, 1, 2]⟩,
  ⟨(some 10), .ext (.t 9) 0, none, [3]⟩,
  ⟨(some 11), .ext (.t 9) 1, none, [3]⟩,
  ⟨(some 4), .mv (.t 10), none, [4, 3, 0, 1, 2, 3, 4, 5]⟩,
  ⟨(some 5), .mv (.t 11), none, [5, 6, 0, 1, 2, 3, 4, 5, 6]⟩])
.ret))
theorem r_chain_Param_Add_1 : fnOf Try.prog n_chain_Param_Add_1 = some (c_chain_Param_Add_1, [.t 4, .t 5], 12, false) := by kernel_rfl

/-- (tallymark/chain.aMorris).good -/
abbrev n_chain_aMorris_good : FuncId := 106
def c_chain_aMorris_good : C := (.seq (.reg false [⟨(some 2), .mv (.d (.bool false)), none, []⟩])
(.seq (.reg false [⟨(some 3), .mv (.t 0), none, []⟩,
  ⟨(some 4), .call 110 [(.t 3)], none, [0]⟩,
  ⟨(some 2), .mv (.t 4), none, [1, 1, 0, 1]⟩])
.ret))
theorem r_chain_aMorris_good : fnOf Try.prog n_chain_aMorris_good = some (c_chain_aMorris_good, [.t 2], 5, false) := by kernel_rfl

/-- (tallymark/chain.aMorris).step -/
abbrev n_chain_aMorris_step : FuncId := 108
def c_chain_aMorris_step : C := (.seq (.reg false [⟨(some 6), .mv (.d (.bool false)), none, []⟩,
  ⟨(some 7), .mv (.d (.int .i64 0)), none, [0]⟩])
(.seq (.reg false [⟨(some 8), .mv (.t 1), none, []⟩,
  ⟨(some 9), .mv (.t 0), none, []⟩,
  ⟨(some 10), .mv (.t 2), none, []⟩,
  ⟨(some 11), .call 111 [(.t 8), (.t 9), (.t 10)], none, [0, 1, 2]⟩,
  ⟨(some 12), .ext (.t 11) 0, none, [3]⟩,
  ⟨(some 13), .ext (.t 11) 1, none, [3]⟩,
  ⟨(some 6), .mv (.t 12), none, [4, 3, 0, 1, 2, 3, 4, 5]⟩,
  ⟨(some 7), .mv (.t 13), none, [5, 6, 0, 1, 2, 3, 4, 5, 6]⟩])
.ret))
theorem r_chain_aMorris_step : fnOf Try.prog n_chain_aMorris_step = some (c_chain_aMorris_step, [.t 6, .t 7], 14, false) := by kernel_rfl

/-- (tallymark/chain.aFloat).good -/
abbrev n_chain_aFloat_good : FuncId := 129
def c_chain_aFloat_good : C := (.seq (.reg false [⟨(some 2), .mv (.d (.bool false)), none, []⟩])
(.seq (.reg false [⟨(some 3), .mv (.t 0), none, []⟩,
  ⟨(some 4), .call 133 [(.t 3)], none, [0]⟩,
  ⟨(some 2), .mv (.t 4), none, [1, 1, 0, 1]⟩])
.ret))
theorem r_chain_aFloat_good : fnOf Try.prog n_chain_aFloat_good = some (c_chain_aFloat_good, [.t 2], 5, false) := by kernel_rfl

/-- (tallymark/chain.aFloat).step -/
abbrev n_chain_aFloat_step : FuncId := 131
def c_chain_aFloat_step : C := (.seq (.reg false [⟨(some 6), .mv (.d (.bool false)), none, []⟩,
  ⟨(some 7), .mv (.d (.int .i64 0)), none, [0]⟩])
(.seq (.reg false [⟨(some 8), .mv (.t 1), none, []⟩,
  ⟨(some 9), .mv (.t 0), none, []⟩,
  ⟨(some 10), .mv (.t 2), none, []⟩,
  ⟨(some 11), .call 134 [(.t 8), (.t 9), (.t 10)], none, [0, 1, 2]⟩,
  ⟨(some 12), .ext (.t 11) 0, none, [3]⟩,
  ⟨(some 13), .ext (.t 11) 1, none, [3]⟩,
  ⟨(some 6), .mv (.t 12), none, [4, 3, 0, 1, 2, 3, 4, 5]⟩,
  ⟨(some 7), .mv (.t 13), none, [5, 6, 0, 1, 2, 3, 4, 5, 6]⟩])
.ret))
theorem r_chain_aFloat_step : fnOf Try.prog n_chain_aFloat_step = some (c_chain_aFloat_step, [.t 6, .t 7], 14, false) := by kernel_rfl

/-- (tallymark/chain.aYu).good -/
abbrev n_chain_aYu_good : FuncId := 140
def c_chain_aYu_good : C := (.seq (.reg false [⟨(some 2), .mv (.d (.bool false)), none, []⟩])
(.seq (.reg false [⟨(some 3), .mv (.t 0), none, []⟩,
  ⟨(some 4), .call 144 [(.t 3)], none, [0]⟩,
  ⟨(some 2), .mv (.t 4), none, [1, 1, 0, 1]⟩])
.ret))
theorem r_chain_aYu_good : fnOf Try.prog n_chain_aYu_good = some (c_chain_aYu_good, [.t 2], 5, false) := by kernel_rfl

/-- (tallymark/chain.aYu).step -/
abbrev n_chain_aYu_step : FuncId := 142
def c_chain_aYu_step : C := (.seq (.reg false [⟨(some 6), .mv (.d (.bool false)), none, []⟩,
  ⟨(some 7), .mv (.d (.int .i64 0)), none, [0]⟩])
(.seq (.reg false [⟨(some 8), .mv (.t 1), none, []⟩,
  ⟨(some 9), .mv (.t 0), none, []⟩,
  ⟨(some 10), .mv (.t 2), none, []⟩,
  ⟨(some 11), .call 145 [(.t 8), (.t 9), (.t 10)], none, [0, 1, 2]⟩,
  ⟨(some 12), .ext (.t 11) 0, none, [3]⟩,
  ⟨(some 13), .ext (.t 11) 1, none, [3]⟩,
  ⟨(some 6), .mv (.t 12), none, [4, 3, 0, 1, 2, 3, 4, 5]⟩,
  ⟨(some 7), .mv (.t 13), none, [5, 6, 0, 1, 2, 3, 4, 5, 6]⟩])
.ret))
theorem r_chain_aYu_step : fnOf Try.prog n_chain_aYu_step = some (c_chain_aYu_step, [.t 6, .t 7], 14, false) := by kernel_rfl

/-- tallymark/morris.Good -/
abbrev n_morris_Good : FuncId := 110
def c_morris_Good : C := (.seq (.reg false [⟨(some 2), .mv (.d (.bool false)), none, []⟩])
(.seq (.reg false [⟨(some 3), .mv (.t 0), none, []⟩,
  ⟨(some 4), .bin .geq (.t 3) (.d (.int .i64 1)), none, [0]⟩,
  ⟨(some 5), .mv (.t 4), none, [1]⟩,
  ⟨(some 6), .mv (.t 0), some (5, true), [2]⟩,
  ⟨(some 7), .bin .leq (.t 6) (.d (.int .i64 4096)), some (5, true), [3, 2]⟩,
  ⟨(some 8), .pick (.t 5) (.t 7) (.d (.bool false)), none, [2, 4]⟩,
  ⟨(some 2), .mv (.t 8), none, [5, 2, 0, 1, 2, 3, 4, 5]⟩])
.ret))
theorem r_morris_Good : fnOf Try.prog n_morris_Good = some (c_morris_Good, [.t 2], 9, false) := by kernel_rfl

/-- tallymark/morris.Step -/
abbrev n_morris_Step : FuncId := 111
def c_morris_Step : C := (.seq (.reg false [⟨(some 6), .mv (.d (.bool false)), none, []⟩,
  ⟨(some 7), .mv (.d (.int .i64 0)), none, [0]⟩])
(.seq (.seq (.reg false [⟨(some 9), .mv (.t 1), none, []⟩,
  ⟨(some 10), .mv (.t 2), none, []⟩,
  ⟨(some 11), .bsl 3 1 1 [(.int .i64 0)] [(0, 1, (.t 10))], none, [1]⟩,
  ⟨(some 12), .call 112 [(.t 9), (.t 11)], none, [0, 2]⟩,
  ⟨(some 8), .mv (.t 12), none, [3, 3, 0, 1, 2, 3]⟩])
(.seq (.reg false [⟨(some 13), .mv (.t 8), none, []⟩,
  ⟨(some 14), .bin .neq (.t 13) (.d (.int .i64 0)), none, [0]⟩])
(.cond (.t 14)
 (.seq (.reg false [⟨(some 15), .mv (.t 8), none, []⟩,
   ⟨(some 6), .mv (.d (.bool false)), none, []⟩,
   ⟨(some 7), .mv (.t 15), none, [0, 1, 0, 1]⟩])
 .ret)
 .skip)))
(.seq (.reg false [⟨(some 16), .mv (.t 0), none, []⟩,
  ⟨(some 17), .mv (.t 1), none, []⟩,
  ⟨(some 18), .mv (.t 2), none, []⟩,
  ⟨(some 19), .call 113 [(.t 16), (.t 17), (.t 18)], none, [0, 1, 2]⟩,
  ⟨(some 20), .ext (.t 19) 0, none, [3]⟩,
  ⟨(some 21), .ext (.t 19) 1, none, [3]⟩,
  ⟨(some 6), .mv (.t 20), none, [4, 3, 0, 1, 2, 3, 4, 5]⟩,
  ⟨(some 7), .mv (.t 21), none, [5, 6, 0, 1, 2, 3, 4, 5, 6]⟩])
.ret)))
theorem r_morris_Step : fnOf Try.prog n_morris_Step = some (c_morris_Step, [.t 6, .t 7], 22, false) := by kernel_rfl

/-- tallymark/morris.wrong -/
abbrev n_morris_wrong : FuncId := 112
def c_morris_wrong : C := (.seq (.reg false [⟨(some 4), .mv (.d (.int .i64 0)), none, []⟩])
(.seq (.seq (.reg false [⟨(some 7), .mv (.t 0), none, []⟩,
  ⟨(some 8), .call 110 [(.t 7)], none, [0]⟩,
  ⟨(some 9), .un .not (.t 8), none, [1]⟩])
(.cond (.t 9)
 (.seq (.reg false [⟨(some 4), .mv (.d (.int .i64 10)), none, []⟩])
 .ret)
 .skip))
(.seq (.seq (.reg false [⟨(some 10), .mv (.t 1), none, []⟩,
  ⟨(some 11), .len (.t 10), none, [0]⟩,
  ⟨(some 12), .mv (.d (.int .i64 0)), none, []⟩])
(.block 0 (.loop (.seq (.reg false [⟨(some 13), .bin .lss (.t 12) (.t 11), none, []⟩])
(.seq (.cond (.t 13)
 .skip
 (.exit 0))
(.seq (.block 1 (.seq (.reg false [⟨(some 14), .ix 1 (.t 10) (.t 12), none, []⟩,
  ⟨(some 15), .load false 1 (.t 14), none, [0]⟩,
  ⟨(some 6), .mv (.t 15), none, [1, 0, 1]⟩])
(.seq (.reg false [⟨(some 16), .mv (.t 6), none, []⟩,
  ⟨(some 17), .bin .lss (.t 16) (.d (.int .i64 0)), none, [0]⟩,
  ⟨(some 18), .mv (.t 17), none, [1]⟩,
  ⟨(some 19), .mv (.t 6), some (18, false), [2]⟩,
  ⟨(some 20), .bin .gtr (.t 19) (.d (.int .i64 1023)), some (18, false), [3, 2]⟩,
  ⟨(some 21), .pick (.t 18) (.d (.bool true)) (.t 20), none, [2, 4]⟩])
(.cond (.t 21)
 (.seq (.reg false [⟨(some 4), .mv (.d (.int .i64 2)), none, []⟩])
 .ret)
 .skip))))
(.reg false [⟨(some 22), .bin .add (.t 12) (.d (.int .i64 1)), none, []⟩,
  ⟨(some 12), .mv (.t 22), none, [0]⟩])))))))
(.seq (.reg false [⟨(some 4), .mv (.d (.int .i64 0)), none, []⟩])
.ret))))
theorem r_morris_wrong : fnOf Try.prog n_morris_wrong = some (c_morris_wrong, [.t 4], 23, false) := by kernel_rfl

/-- tallymark/morris.power -/
abbrev n_morris_power : FuncId := 113
def c_morris_power : C := (.seq (.reg false [⟨(some 6), .mv (.d (.bool false)), none, []⟩,
  ⟨(some 7), .mv (.d (.int .i64 0)), none, [0]⟩])
(.seq (.reg false [⟨(some 8), .mv (.t 0), none, []⟩,
  ⟨(some 9), .mv (.t 1), none, []⟩,
  ⟨(some 10), .conv .u64 (.t 9), none, [1]⟩,
  ⟨(some 11), .bsl 86 1 1 [(.int .u64 0)] [(0, 1, (.t 10))], none, [2]⟩,
  ⟨(some 12), .call 115 [(.t 11)], none, [3]⟩,
  ⟨(some 13), .mv (.t 1), none, []⟩,
  ⟨(some 14), .bin .add (.t 13) (.d (.int .i64 1)), none, [5]⟩,
  ⟨(some 15), .conv .u64 (.t 14), none, [6]⟩,
  ⟨(some 16), .bsl 86 1 1 [(.int .u64 0)] [(0, 1, (.t 15))], none, [7]⟩,
  ⟨(some 17), .call 115 [(.t 16)], none, [8, 4]⟩,
  ⟨(some 18), .mv (.t 2), none, []⟩,
  ⟨(some 19), .call 114 [(.t 8), (.t 12), (.t 17), (.t 18)], none, [0, 4, 9, 10, 9]⟩,
  ⟨(some 20), .ext (.t 19) 0, none, [11]⟩,
  ⟨(some 21), .ext (.t 19) 1, none, [11]⟩,
  ⟨(some 6), .mv (.t 20), none, [12, 11, 0, 1, 2, 3, 4, 5, 6, 7, 8, 9, 10, 11, 12, 13]⟩,
  ⟨(some 7), .mv (.t 21), none, [13, 14, 0, 1, 2, 3, 4, 5, 6, 7, 8, 9, 10, 11, 12, 13, 14]⟩])
.ret))
theorem r_morris_power : fnOf Try.prog n_morris_power = some (c_morris_power, [.t 6, .t 7], 22, false) := by kernel_rfl

/-- tallymark/flip.Power -/
abbrev n_flip_Power : FuncId := 114
def c_flip_Power : C := (.seq (.reg false [⟨(some 5), .box 178 (.t 1), none, []⟩,
  ⟨(some 6), .box 178 (.t 2), none, []⟩,
  ⟨(some 8), .mv (.d (.bool false)), none, []⟩,
  ⟨(some 9), .mv (.d (.int .i64 0)), none, [2]⟩])
(.seq (.seq (.reg false [⟨(some 12), .load true 1 (.t 5), none, []⟩,
  ⟨(some 13), .load true 1 (.t 6), none, []⟩,
  ⟨(some 14), .call 116 [(.t 12), (.t 13)], none, [0, 1]⟩,
  ⟨(some 15), .un .not (.t 14), none, [2]⟩])
(.cond (.t 15)
 (.seq (.reg false [⟨(some 8), .mv (.d (.bool false)), none, []⟩,
   ⟨(some 9), .mv (.d (.int .i64 2)), none, [0, 0]⟩])
 .ret)
 .skip))
(.seq (.seq (.reg false [⟨(some 16), .mv (.t 3), none, []⟩,
  ⟨(some 17), .mm true [(.d (.int .i64 0)), (.t 16)], none, [0]⟩,
  ⟨(some 18), .mv (.d (.int .i64 0)), none, []⟩])
(.block 0 (.loop (.seq (.reg false [⟨(some 19), .bin .lss (.t 18) (.t 17), none, []⟩])
(.seq (.cond (.t 19)
 .skip
 (.exit 0))
(.seq (.block 1 (.seq (.reg false [⟨(some 21), .mv (.t 0), none, []⟩,
  ⟨(some 22), .load true 1 (.t 5), none, []⟩,
  ⟨(some 23), .load true 1 (.t 6), none, []⟩,
  ⟨(some 24), .call 117 [(.t 21), (.t 22), (.t 23)], none, [0, 1, 2]⟩,
  ⟨(some 20), .mv (.t 24), none, [3]⟩,
  ⟨(some 25), .ext (.t 20) 0, none, [4]⟩,
  ⟨(some 26), .ext (.t 20) 1, none, [4]⟩,
  ⟨(some 10), .mv (.t 25), none, [5, 3, 0, 1, 2, 3, 4, 5]⟩,
  ⟨(some 11), .mv (.t 26), none, [6, 7, 0, 1, 2, 3, 4, 5, 6, 7]⟩])
(.seq (.reg false [⟨(some 27), .mv (.t 10), none, []⟩,
  ⟨(some 28), .un .not (.t 27), none, [0]⟩])
(.cond (.t 28)
 (.seq (.reg false [⟨(some 29), .mv (.t 11), none, []⟩,
   ⟨(some 8), .mv (.d (.bool false)), none, []⟩,
   ⟨(some 9), .mv (.t 29), none, [0, 1, 0, 1]⟩])
 .ret)
 .skip))))
(.reg false [⟨(some 30), .bin .add (.t 18) (.d (.int .i64 1)), none, []⟩,
  ⟨(some 18), .mv (.t 30), none, [0]⟩])))))))
(.seq (.reg false [⟨(some 8), .mv (.d (.bool true)), none, []⟩,
  ⟨(some 9), .mv (.d (.int .i64 0)), none, [0, 0]⟩])
.ret))))
theorem r_flip_Power : fnOf Try.prog n_flip_Power = some (c_flip_Power, [.t 8, .t 9], 31, false) := by kernel_rfl

/-- tallymark/flip.good -/
abbrev n_flip_good : FuncId := 116
def c_flip_good : C := (.seq (.reg false [⟨(some 2), .box 178 (.t 0), none, []⟩,
  ⟨(some 3), .box 178 (.t 1), none, []⟩,
  ⟨(some 4), .mv (.d (.bool false)), none, []⟩])
(.seq (.reg false [⟨(some 5), .load true 1 (.t 3), none, []⟩,
  ⟨(some 6), .call 120 [(.t 5)], none, [0]⟩,
  ⟨(some 7), .un .not (.t 6), none, [1]⟩,
  ⟨(some 8), .mv (.t 7), none, [2, 1]⟩,
  ⟨(some 9), .load true 1 (.t 2), some (8, true), [3]⟩,
  ⟨(some 10), .load true 1 (.t 3), some (8, true), [3]⟩,
  ⟨(some 11), .call 121 [(.t 9), (.t 10)], some (8, true), [4, 5, 3, 3]⟩,
  ⟨(some 12), .bin .leq (.t 11) (.d (.int .i64 0)), some (8, true), [6, 3]⟩,
  ⟨(some 13), .pick (.t 8) (.t 12) (.d (.bool false)), none, [3, 7]⟩,
  ⟨(some 4), .mv (.t 13), none, [8, 6, 0, 1, 2, 3, 4, 5, 6, 7, 8]⟩])
.ret))
theorem r_flip_good : fnOf Try.prog n_flip_good = some (c_flip_good, [.t 4], 14, false) := by kernel_rfl

/-- tallymark/flip.Ratio -/
abbrev n_flip_Ratio : FuncId := 117
def c_flip_Ratio : C := (.seq (.reg false [⟨(some 4), .box 178 (.t 1), none, []⟩,
  ⟨(some 5), .box 178 (.t 2), none, []⟩,
  ⟨(some 6), .mv (.d (.bool false)), none, []⟩,
  ⟨(some 7), .mv (.d (.int .i64 0)), none, [2]⟩])
(.seq (.block 0 (.seq (.reg false [⟨(some 15), .load true 1 (.t 4), none, []⟩,
  ⟨(some 16), .load true 1 (.t 5), none, []⟩,
  ⟨(some 17), .call 116 [(.t 15), (.t 16)], none, [0, 1]⟩,
  ⟨(some 18), .un .not (.t 17), none, [2]⟩,
  ⟨(some 14), .mv (.t 18), none, [3, 2]⟩])
(.cond (.t 14)
 (.seq (.reg false [⟨(some 6), .mv (.d (.bool false)), none, []⟩,
   ⟨(some 7), .mv (.d (.int .i64 2)), none, [0, 0]⟩])
 .ret)
 (.seq (.reg false [⟨(some 20), .load true 1 (.t 4), none, []⟩,
   ⟨(some 21), .call 120 [(.t 20)], none, [0]⟩,
   ⟨(some 19), .mv (.t 21), none, [1, 1]⟩])
 (.cond (.t 19)
  (.seq (.reg false [⟨(some 6), .mv (.d (.bool false)), none, []⟩,
    ⟨(some 7), .mv (.d (.int .i64 0)), none, [0, 0]⟩])
  .ret)
  .skip)))))
(.seq (.seq (.reg false [⟨(some 22), .load true 1 (.t 4), none, []⟩,
  ⟨(some 8), .new 178 [.nilsl], none, []⟩,
  ⟨none, .store 1 (.t 8) (.t 22), none, [1, 0, 0, 1]⟩])
(.block 1 (.loop (.seq (.seq (.reg false [⟨(some 23), .load true 1 (.t 8), none, []⟩,
  ⟨(some 24), .load true 1 (.t 5), none, []⟩,
  ⟨(some 25), .call 121 [(.t 23), (.t 24)], none, [0, 1]⟩,
  ⟨(some 26), .bin .lss (.t 25) (.d (.int .i64 0)), none, [2]⟩])
(.cond (.t 26)
 .skip
 (.exit 1)))
(.seq (.block 2 (.seq (.reg false [⟨(some 28), .mv (.t 0), none, []⟩,
  ⟨(some 29), .call 122 [(.t 28)], none, [0]⟩,
  ⟨(some 27), .mv (.t 29), none, [1]⟩,
  ⟨(some 30), .ext (.t 27) 0, none, [2]⟩,
  ⟨(some 31), .ext (.t 27) 1, none, [2]⟩,
  ⟨(some 9), .mv (.t 30), none, [3, 1, 0, 1, 2, 3]⟩,
  ⟨(some 10), .mv (.t 31), none, [4, 5, 0, 1, 2, 3, 4, 5]⟩])
(.seq (.seq (.reg false [⟨(some 32), .mv (.t 10), none, []⟩,
  ⟨(some 33), .bin .neq (.t 32) (.d (.int .i64 0)), none, [0]⟩])
(.cond (.t 33)
 (.seq (.reg false [⟨(some 34), .mv (.t 10), none, []⟩,
   ⟨(some 6), .mv (.d (.bool false)), none, []⟩,
   ⟨(some 7), .mv (.t 34), none, [0, 1, 0, 1]⟩])
 .ret)
 .skip))
(.seq (.reg false [⟨(some 35), .load true 1 (.t 8), none, []⟩,
  ⟨(some 36), .load true 1 (.t 8), none, []⟩,
  ⟨(some 37), .call 123 [(.t 35), (.t 36)], none, [0, 1]⟩,
  ⟨none, .store 1 (.t 8) (.t 37), none, [2, 2, 0, 1, 2]⟩])
(.seq (.reg false [⟨(some 39), .load true 1 (.t 8), none, []⟩,
  ⟨(some 40), .load true 1 (.t 5), none, []⟩,
  ⟨(some 41), .call 124 [(.t 39), (.t 40)], none, [0, 1]⟩,
  ⟨(some 38), .mv (.t 41), none, [2]⟩,
  ⟨(some 42), .ext (.t 38) 0, none, [3]⟩,
  ⟨(some 43), .ext (.t 38) 1, none, [3]⟩,
  ⟨(some 11), .new 178 [.nilsl], none, []⟩,
  ⟨none, .store 1 (.t 11) (.t 42), none, [6, 4, 2, 0, 1, 2, 3, 4, 6]⟩,
  ⟨(some 12), .mv (.t 43), none, [5, 7, 0, 1, 2, 3, 4, 5, 6, 7]⟩])
(.seq (.reg false [⟨(some 44), .mv (.t 12), none, []⟩,
  ⟨(some 45), .bin .eql (.t 44) (.d (.int .i64 0)), none, [0]⟩,
  ⟨(some 13), .mv (.t 45), none, [1, 0, 1]⟩])
(.seq (.seq (.reg false [⟨(some 46), .mv (.t 13), none, []⟩])
(.cond (.t 46)
 (.reg false [⟨(some 47), .load true 1 (.t 11), none, []⟩,
   ⟨none, .store 1 (.t 8) (.t 47), none, [0, 0]⟩])
 .skip))
(.seq (.reg false [⟨(some 48), .mv (.t 9), none, []⟩,
  ⟨(some 49), .mv (.t 13), none, []⟩,
  ⟨(some 50), .beq true (.t 48) (.t 49), none, [0, 1]⟩,
  ⟨(some 51), .mv (.t 50), none, [2]⟩,
  ⟨(some 52), .load true 1 (.t 8), some (51, false), [3]⟩,
  ⟨(some 53), .call 120 [(.t 52)], some (51, false), [4, 3, 3]⟩,
  ⟨(some 54), .pick (.t 51) (.d (.bool true)) (.t 53), none, [3, 5]⟩])
(.cond (.t 54)
 (.seq (.reg false [⟨(some 55), .mv (.t 13), none, []⟩,
   ⟨(some 56), .mv (.t 55), none, [0]⟩,
   ⟨(some 57), .mv (.t 9), some (56, true), [1]⟩,
   ⟨(some 58), .un .not (.t 57), some (56, true), [2, 1]⟩,
   ⟨(some 59), .pick (.t 56) (.t 58) (.d (.bool false)), none, [1, 3]⟩,
   ⟨(some 6), .mv (.t 59), none, [4, 1, 0, 1, 2, 3, 4]⟩,
   ⟨(some 7), .mv (.d (.int .i64 0)), none, [5, 0, 1, 2, 3, 4, 5]⟩])
 .ret)
 .skip)))))))))
(.seq (.reg false [⟨(some 60), .load true 1 (.t 8), none, []⟩])
(.reg false [⟨(some 8), .new 178 [.nilsl], none, []⟩,
  ⟨none, .store 1 (.t 8) (.t 60), none, [0, 0]⟩])))))))
(.seq (.reg false [⟨(some 6), .mv (.d (.bool true)), none, []⟩,
  ⟨(some 7), .mv (.d (.int .i64 0)), none, [0, 0]⟩])
.ret))))
theorem r_flip_Ratio : fnOf Try.prog n_flip_Ratio = some (c_flip_Ratio, [.t 6, .t 7], 61, false) := by kernel_rfl

/-- tallymark/tallymarkref15.Top -/
abbrev n_Tref15_Top : FuncId := 30
def c_Tref15_Top : C := (.seq (.reg false [⟨(some 1), .box 67 (.t 0), none, []⟩,
  ⟨(some 2), .mv (.d (.int .i64 0)), none, []⟩])
(.seq (.reg false [⟨(some 3), .fa 2 (.t 1), none, []⟩,
  ⟨(some 4), .load false 1 (.t 3), none, [0]⟩,
  ⟨(some 5), .call 51 [(.t 4)], none, [1]⟩,
  ⟨(some 6), .bin .sub (.t 5) (.d (.int .i64 1)), none, [2]⟩,
  ⟨(some 2), .mv (.t 6), none, [3, 2, 0, 1, 2, 3]⟩])
.ret))
theorem r_Tref15_Top : fnOf Try.prog n_Tref15_Top = some (c_Tref15_Top, [.t 2], 7, false) := by kernel_rfl

/-- math/bits.Len -/
abbrev n_math_bits_Len : FuncId := 78
def c_math_bits_Len : C := (.seq (.reg false [⟨(some 2), .mv (.d (.int .i64 0)), none, []⟩])
(.seq (.cond (.d (.bool false))
 (.seq (.reg false [⟨(some 3), .mv (.t 0), none, []⟩,
   ⟨(some 4), .conv .u32 (.t 3), none, [0]⟩,
   ⟨(some 5), .call 85 [(.t 4)], none, [1]⟩,
   ⟨(some 2), .mv (.t 5), none, [2, 2, 0, 1, 2]⟩])
 .ret)
 .skip)
(.seq (.reg false [⟨(some 6), .mv (.t 0), none, []⟩,
  ⟨(some 7), .call 86 [(.t 6)], none, [0]⟩,
  ⟨(some 2), .mv (.t 7), none, [1, 1, 0, 1]⟩])
.ret)))
theorem r_math_bits_Len : fnOf Try.prog n_math_bits_Len = some (c_math_bits_Len, [.t 2], 8, false) := by kernel_rfl

end Go.Proofs.Ytakjegcjeffmgaa.Am
