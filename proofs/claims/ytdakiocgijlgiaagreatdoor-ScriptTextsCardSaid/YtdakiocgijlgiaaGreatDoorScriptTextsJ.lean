/- What the row ScriptTexts goes by. Written by a program. -/
import Derived.Test.YtdakiocgijlgiaaGreatDoorScriptTextsK0
import Derived.Test.YtdakiocgijlgiaaGreatDoorScriptTextsK1
import Derived.Test.YtdakiocgijlgiaaGreatDoorScriptTextsK2
import Derived.Test.YtdakiocgijlgiaaGreatDoorScriptTextsK3
import Derived.Test.YtdakiocgijlgiaaGreatDoorCards
namespace Go.Proofs.YtdakiocgijlgiaaGreatDoor.scriptTexts
set_option maxRecDepth 100000
theorem w_size : Tryz.prog.funcs.size = LTs.length := by kernel_rfl
theorem w_ok (g : Nat) (hg : g < Tryz.prog.funcs.size) : okF LTs Tryz.prog g = true := by
  have hs : LTs.length = 482 := by kernel_rfl
  rw [w_size, hs] at hg
  by_cases h0 : g < 121
  · exact List.all_eq_true.1 ok_0 g (List.mem_range'_1.2 (by omega))
  by_cases h1 : g < 242
  · exact List.all_eq_true.1 ok_1 g (List.mem_range'_1.2 (by omega))
  by_cases h2 : g < 363
  · exact List.all_eq_true.1 ok_2 g (List.mem_range'_1.2 (by omega))
  by_cases h3 : g < 482
  · exact List.all_eq_true.1 ok_3 g (List.mem_range'_1.2 (by omega))
  omega
theorem w_closure : Tryz.prog.closure 4 = [4, 6, 9, 15, 16, 36, 62, 96, 97, 168, 167, 169, 98, 99, 170, 171, 270, 271, 21, 25, 42, 68, 105, 22, 46, 71, 23, 47, 72, 75, 107, 176, 177, 178, 179, 272, 273, 335, 108, 181, 252, 180, 109, 182, 183, 110, 111, 184, 50, 73, 49, 74, 112, 185, 274, 113, 186, 48, 76, 114, 149, 187, 254, 329, 370, 120, 115, 116, 188, 189, 190, 117, 191, 194, 277, 275, 192, 276, 201, 336, 284, 193, 208, 206, 285, 286, 144, 199, 141, 245, 246, 150, 207, 287, 195, 196, 278, 197, 118, 119, 198, 82, 142, 247, 129, 225, 248, 249, 250, 251, 143, 145, 146, 147, 253, 148, 51, 77, 121, 200, 279, 280, 337, 309, 308, 358, 202, 204, 203, 281, 283, 282, 205, 122, 123, 124, 209, 45, 70, 66, 210, 288, 338, 44, 63, 289, 339, 340, 326, 367, 368, 346, 65, 101, 172, 392, 401, 403, 174, 100, 393, 375, 369, 290, 8, 20, 220, 303, 39, 64, 302, 327, 301, 341, 372, 131, 243, 328, 305, 349, 342, 373, 374, 394, 343, 211, 291, 212, 292, 293, 294, 219, 344, 295, 125, 213, 78, 126, 214, 296, 226, 311, 215, 297, 345, 127, 216, 298, 79, 128, 217, 299, 300, 218, 130, 132, 133, 221, 304, 347, 348, 376, 395, 377, 396, 306, 240, 222, 307, 350, 351, 378, 352, 379, 380, 353, 381, 382, 397, 354, 355, 356, 357, 80, 134, 223, 224, 310, 135, 136, 227, 228, 137, 229, 313, 312, 81, 138, 230, 315, 314, 359, 231, 232, 234, 235, 318, 360, 317, 316, 319, 320, 361, 362, 233, 236, 324, 363, 383, 384, 398, 385, 386, 399, 400, 402, 387, 388, 389, 390, 325, 365, 391, 366, 364, 321, 322, 323, 139, 237, 238, 239, 241, 242, 140, 244, 24, 52, 83, 151, 152, 255, 84, 153, 85, 154, 166, 269, 256, 257, 258, 330, 12, 31, 58, 32, 59, 91, 156, 259, 260, 157, 261, 331, 262, 263, 332, 264, 61, 95, 92, 158, 265, 60, 93, 160, 159, 161, 163, 266, 162, 165, 268, 334, 267, 333, 94, 371, 164, 33, 7, 17, 37, 38, 40, 67, 102, 173, 103, 175, 41, 69, 106, 104, 26, 18, 19, 43, 11, 10, 28, 56, 89, 88, 155, 90, 27, 53, 86, 55, 87, 54, 29, 57, 30, 13, 34, 14, 35] := by
  rw [closure_of w_size w_ok]; kernel_rfl
theorem w_inp : Tryz.prog.inPlace 4 = ["internal/abi.NoEscape", "math/bits.Add64", "math/bits.Sub64", "internal/bytealg.CountString", "internal/bytealg.IndexByteString", "internal/bytealg.IndexString", "internal/bytealg.MakeNoZero"] := by
  unfold Program.inPlace; rw [w_closure]; kernel_rfl
theorem w_unf : Tryz.prog.unfollowed 4 = true := by
  unfold Program.unfollowed; rw [w_closure]; kernel_rfl
theorem w_rec : Tryz.prog.recurses 4 = true := by
  unfold Program.recurses; rw [w_unf]; rfl
theorem w_vars : Tryz.prog.varsNamed 4 = ["internal/strconv.uint64pow10", "math/bits.deBruijn32tab", "math/bits.deBruijn64tab", "math/bits.divideError", "math/bits.overflowError", "unicode/utf8.first", "unicode/utf8.acceptRanges", "internal/bytealg.MaxLen", "strconv.ErrSyntax", "strconv.ErrRange"] := by
  unfold Program.varsNamed; rw [w_closure]; kernel_rfl
theorem w_prog : Tryz.pinned.checked.prog = Tryz.prog := rfl
theorem card_by : false = Rows.scriptTextsRow.goesBy Tryz.pinned.checked.prog := by
  rw [w_prog]; exact goesBy_no (goes_of w_ok) _
end Go.Proofs.YtdakiocgijlgiaaGreatDoor.scriptTexts
