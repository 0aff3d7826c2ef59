/- What the row SketchHandles goes by. Written by a program. -/
import Derived.Test.YtpobgdipcbglcaaGreatDoorSketchHandlesK0
import Derived.Test.YtpobgdipcbglcaaGreatDoorSketchHandlesK1
import Derived.Test.YtpobgdipcbglcaaGreatDoorSketchHandlesK2
import Derived.Test.YtpobgdipcbglcaaGreatDoorSketchHandlesK3
import Derived.Test.YtpobgdipcbglcaaGreatDoorCards
namespace Go.Proofs.YtpobgdipcbglcaaGreatDoor.sketchHandles
set_option maxRecDepth 100000
theorem w_size : Tryz.prog.funcs.size = LTs.length := by kernel_rfl
theorem w_ok (g : Nat) (hg : g < Tryz.prog.funcs.size) : okF LTs Tryz.prog g = true := by
  have hs : LTs.length = 498 := by kernel_rfl
  rw [w_size, hs] at hg
  by_cases h0 : g < 125
  · exact List.all_eq_true.1 ok_0 g (List.mem_range'_1.2 (by omega))
  by_cases h1 : g < 250
  · exact List.all_eq_true.1 ok_1 g (List.mem_range'_1.2 (by omega))
  by_cases h2 : g < 375
  · exact List.all_eq_true.1 ok_2 g (List.mem_range'_1.2 (by omega))
  by_cases h3 : g < 498
  · exact List.all_eq_true.1 ok_3 g (List.mem_range'_1.2 (by omega))
  omega
theorem w_closure : Tryz.prog.closure 4 = [4, 11, 12, 9, 32, 13, 42, 130, 133, 121, 34, 222, 38, 223, 127, 159, 285, 208, 198, 174, 175, 300, 227, 321, 322, 228, 209, 311, 45, 131, 44, 132, 229, 323, 320, 230, 200, 43, 134, 231, 166, 178, 287, 364, 394, 234, 67, 176, 170, 173, 289, 232, 324, 326, 211, 177, 66, 122, 36, 224, 225, 325, 179, 63, 168, 169, 161, 33, 64, 171, 172, 68, 65, 290, 299, 308, 210, 99, 233, 16, 52, 61, 160, 286, 22, 28, 108, 109, 83, 91, 98, 162, 163, 164, 97, 165, 46, 135, 235, 327, 123, 375, 398, 125, 124, 226, 37, 40, 328, 126, 376, 128, 41, 21, 236, 237, 53, 74, 189, 147, 329, 182, 291, 294, 144, 204, 309, 310, 274, 357, 358, 292, 146, 255, 345, 392, 413, 423, 351, 254, 293, 183, 184, 377, 90, 205, 156, 273, 50, 145, 272, 276, 271, 399, 415, 186, 96, 207, 157, 275, 400, 416, 417, 424, 187, 141, 251, 330, 378, 379, 380, 333, 401, 381, 238, 119, 136, 239, 142, 252, 140, 250, 82, 201, 301, 240, 143, 253, 137, 241, 331, 382, 383, 332, 242, 243, 244, 334, 384, 92, 402, 418, 425, 419, 426, 185, 190, 335, 385, 403, 404, 420, 405, 360, 361, 406, 421, 422, 427, 407, 408, 409, 410, 138, 10, 35, 39, 129, 245, 246, 336, 337, 247, 338, 81, 120, 139, 54, 150, 264, 263, 355, 151, 152, 154, 155, 266, 356, 265, 214, 267, 216, 314, 315, 153, 102, 217, 316, 366, 367, 395, 368, 369, 396, 397, 414, 370, 371, 372, 373, 218, 318, 374, 319, 317, 268, 269, 270, 248, 339, 340, 341, 342, 343, 249, 344, 15, 48, 49, 51, 148, 256, 346, 347, 386, 387, 348, 349, 388, 389, 411, 412, 149, 257, 350, 258, 352, 259, 353, 390, 354, 391, 260, 261, 262, 14, 47] := by
  rw [closure_of w_size w_ok]; kernel_rfl
theorem w_inp : Tryz.prog.inPlace 4 = ["math/bits.Add64", "math/bits.Sub64", "internal/abi.NoEscape", "internal/bytealg.MakeNoZero"] := by
  unfold Program.inPlace; rw [w_closure]; kernel_rfl
theorem w_unf : Tryz.prog.unfollowed 4 = true := by
  unfold Program.unfollowed; rw [w_closure]; kernel_rfl
theorem w_rec : Tryz.prog.recurses 4 = true := by
  unfold Program.recurses; rw [w_unf]; rfl
theorem w_vars : Tryz.prog.varsNamed 4 = ["math/bits.divideError", "math/bits.overflowError", "internal/strconv.uint64pow10", "math/bits.deBruijn32tab", "math/bits.deBruijn64tab"] := by
  unfold Program.varsNamed; rw [w_closure]; kernel_rfl
theorem w_prog : Tryz.pinned.checked.prog = Tryz.prog := rfl
theorem card_by : false = Rows.sketchHandlesRow.goesBy Tryz.pinned.checked.prog := by
  rw [w_prog]; exact goesBy_no (goes_of w_ok) _
end Go.Proofs.YtpobgdipcbglcaaGreatDoor.sketchHandles
