/- What the row KernelErrors goes by. Written by a program. -/
import Derived.Test.YtpobgdipcbglcaaGreatDoorKernelErrorsK0
import Derived.Test.YtpobgdipcbglcaaGreatDoorKernelErrorsK1
import Derived.Test.YtpobgdipcbglcaaGreatDoorKernelErrorsK2
import Derived.Test.YtpobgdipcbglcaaGreatDoorKernelErrorsK3
import Derived.Test.YtpobgdipcbglcaaGreatDoorCards
namespace Go.Proofs.YtpobgdipcbglcaaGreatDoor.kernelErrors
set_option maxRecDepth 100000
theorem w_size : Tryz.prog.funcs.size = LTs.length := by kernel_rfl
theorem w_ok (g : Nat) (hg : g < Tryz.prog.funcs.size) : okF LTs Tryz.prog g = true := by
  have hs : LTs.length = 498 := by kernel_rfl
  rw [w_size, hs] at hg
  by_cases h0 : g < 125
  · exact List.all_eq_true.1 ok_0 g (List.mem_range'_1.2 (by omega))
  by_cases h1 : g < 250
  · exact List.all_eq_true.1 ok_1 g (List.mem_range'_1.2 (by omega))
  by_cases h2 : g < 375
  · exact List.all_eq_true.1 ok_2 g (List.mem_range'_1.2 (by omega))
  by_cases h3 : g < 498
  · exact List.all_eq_true.1 ok_3 g (List.mem_range'_1.2 (by omega))
  omega
theorem w_closure : Tryz.prog.closure 3 = [3, 5, 6, 16, 52, 122, 121, 34, 222, 38, 223, 127, 159, 285, 208, 36, 224, 225, 17, 21, 63, 168, 169, 65, 64, 170, 171, 172, 68, 67, 178, 66, 173, 174, 175, 176, 289, 177, 53, 18, 54, 150, 264, 263, 355, 151, 152, 90, 205, 74, 189, 147, 294, 144, 154, 155, 266, 356, 182, 291, 274, 309, 357, 358, 292, 146, 255, 345, 392, 413, 423, 351, 254, 293, 183, 184, 310, 265, 214, 157, 273, 50, 145, 272, 276, 275, 96, 207, 267, 216, 314, 186, 190, 315, 153, 102, 156, 271, 217, 316, 366, 367, 395, 368, 360, 361, 369, 396, 397, 414, 370, 371, 372, 373, 218, 318, 374, 319, 317, 268, 269, 126, 270, 20, 19, 55, 56, 61, 160, 286, 22, 28, 108, 109, 83, 91, 98, 161, 33, 162, 163, 164, 97, 165, 166, 287, 364, 394, 57, 58, 59, 158, 277, 278, 359, 279, 280, 362, 363, 393, 281, 282, 283, 284, 60, 62, 167, 288, 23, 69, 140, 250, 179, 290, 24, 70, 180, 119, 71, 72, 181, 73, 185, 204, 187, 188, 75, 76, 191, 77, 192, 194, 295, 251, 193, 196, 195, 296, 297, 298, 221, 78, 197, 299, 227, 321, 322, 15, 48, 49, 51, 148, 256, 346, 347, 386, 387, 348, 349, 388, 389, 411, 412, 149, 257, 350, 258, 352, 259, 353, 390, 354, 391, 260, 261, 262, 7, 25, 79, 80, 198, 300, 199, 81, 82, 200, 201, 301, 84, 202, 302, 303, 304, 306, 307, 305, 365, 203, 308, 228, 210, 325, 26, 85, 86, 87, 88, 89, 92, 94, 95, 93, 206, 99, 209, 311, 211, 8, 27, 100, 101, 212, 312, 313, 213, 215, 29, 103, 104, 105, 107, 106, 219, 30, 110, 111, 112, 113, 220, 114, 115, 116, 117, 118, 31, 120, 9, 32, 10, 35, 123, 124, 226, 320, 125, 37, 40, 39, 129, 128, 41] := by
  rw [closure_of w_size w_ok]; kernel_rfl
theorem w_inp : Tryz.prog.inPlace 3 = ["math/bits.Add64", "math/bits.Sub64", "internal/abi.NoEscape", "internal/bytealg.MakeNoZero"] := by
  unfold Program.inPlace; rw [w_closure]; kernel_rfl
theorem w_unf : Tryz.prog.unfollowed 3 = true := by
  unfold Program.unfollowed; rw [w_closure]; kernel_rfl
theorem w_rec : Tryz.prog.recurses 3 = true := by
  unfold Program.recurses; rw [w_unf]; rfl
theorem w_vars : Tryz.prog.varsNamed 3 = ["math/bits.divideError", "math/bits.overflowError", "internal/strconv.uint64pow10", "math/bits.deBruijn32tab", "math/bits.deBruijn64tab"] := by
  unfold Program.varsNamed; rw [w_closure]; kernel_rfl
theorem w_prog : Tryz.pinned.checked.prog = Tryz.prog := rfl
theorem card_by : false = Rows.kernelErrorsRow.goesBy Tryz.pinned.checked.prog := by
  rw [w_prog]; exact goesBy_no (goes_of w_ok) _
end Go.Proofs.YtpobgdipcbglcaaGreatDoor.kernelErrors
