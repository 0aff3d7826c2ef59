/- What functions lead to: a certificate, and what it is good for. Written by a program. -/
import Derived.Test.YtdakiocgijlgiaaGreatDoorProg
import Derived.KernelRfl
import GoSem.ClaimGoes
import Derived.JoinedOf
namespace Go.Proofs.YtdakiocgijlgiaaGreatDoor.scriptTexts
set_option maxRecDepth 100000
variable (LT : List (List Nat))
def okF (P : Program) (g : Nat) : Bool := match P.funcs[g]? with
  | some fn => decide (P.leadsTo fn = LT.getD g []) && !fn.goes
  | none => false
/-- the closure, by bits -/
def cvB : Nat → List Nat → Nat → List Nat → List Nat
  | 0, _, _, seen => seen.reverse
  | _, [], _, seen => seen.reverse
  | n + 1, f :: todo, mask, seen => match Nat.testBit mask f with
    | true => cvB n todo mask seen
    | false => cvB n (LT.getD f [] ++ todo) (mask ||| 2 ^ f) (f :: seen)
variable {LT}
theorem cvB_ok {P : Program} (h : ∀ f, (P.funcs[f]?).elim [] P.leadsTo = LT.getD f []) : ∀ (n : Nat) (todo seen : List Nat) (mask : Nat), (∀ g, mask.testBit g = seen.contains g) → P.closureVia n todo seen = cvB LT n todo mask seen
  | 0, todo, seen, mask, hm => by unfold Program.closureVia cvB; rfl
  | n + 1, [], seen, mask, hm => by unfold Program.closureVia cvB; rfl
  | n + 1, f :: todo, seen, mask, hm => by
    rw [Program.closureVia, cvB, h f, hm f]
    cases hc : seen.contains f
    · simp only [Bool.false_eq_true, if_false]
      refine cvB_ok h n _ _ _ fun g => ?_
      rw [Nat.testBit_or, hm g, Nat.testBit_two_pow, List.contains_cons, Bool.or_comm]
      congr 1
      rw [Bool.eq_iff_iff]
      simp only [decide_eq_true_eq, beq_iff_eq]
      exact eq_comm
    · simp only [if_true]
      exact cvB_ok h n todo seen mask hm
theorem leads_of {P : Program} (hs : P.funcs.size = LT.length) (h : ∀ g, g < P.funcs.size → okF LT P g = true) (f : Nat) : (P.funcs[f]?).elim [] P.leadsTo = LT.getD f [] := by
  by_cases hf : f < P.funcs.size
  · have h1 := h f hf
    unfold okF at h1
    rw [Array.getElem?_eq_getElem hf] at h1 ⊢
    simp only [Bool.and_eq_true, decide_eq_true_eq] at h1
    exact h1.1
  · rw [Array.getElem?_eq_none (by omega), List.getD_eq_getElem?_getD, List.getElem?_eq_none (by omega)]
    rfl
theorem goes_of {P : Program} (h : ∀ g, g < P.funcs.size → okF LT P g = true) : ∀ fn ∈ P.funcs, fn.goes = false := fun fn hfn => by
  obtain ⟨i, hi, rfl⟩ := Array.getElem_of_mem hfn
  have h1 := h i hi
  unfold okF at h1
  rw [Array.getElem?_eq_getElem hi] at h1
  simp only [Bool.and_eq_true, Bool.not_eq_true'] at h1
  exact h1.2
theorem goes_no {P : Program} (h : ∀ fn ∈ P.funcs, fn.goes = false) (f : FuncId) : P.goes f = false := by
  have h1 : ∀ g : Nat, (P.funcs[g]?).any Func.goes = false := fun g => by
    cases hg : P.funcs[g]? with
    | none => rfl
    | some fn => exact h fn (Array.mem_of_getElem? hg)
  have h2 : P.funcs.any Func.goes = false := by
    rw [Array.any_eq_false']
    intro fn hfn
    rw [h fn hfn]; exact Bool.false_ne_true
  unfold Program.goes
  rw [h2, Bool.and_false, Bool.or_false, List.any_eq_false]
  intro g _
  rw [h1 g]; exact Bool.false_ne_true
theorem fuel_of {P : Program} (hs : P.funcs.size = LT.length) (h : ∀ g, g < P.funcs.size → okF LT P g = true) : (P.funcs.toList.map fun g => (P.leadsTo g).length + 1) = LT.map fun l => l.length + 1 := by
  refine List.ext_getElem? fun i => ?_
  have h1 := leads_of hs h i
  rw [List.getElem?_map, List.getElem?_map, Array.getElem?_toList]
  by_cases hi : i < P.funcs.size
  · rw [Array.getElem?_eq_getElem hi] at h1 ⊢
    rw [List.getElem?_eq_getElem (by omega : i < LT.length)]
    rw [List.getD_eq_getElem?_getD, List.getElem?_eq_getElem (by omega : i < LT.length)] at h1
    simp only [Option.elim_some, Option.getD_some] at h1
    simp only [Option.map_some, h1]
  · rw [Array.getElem?_eq_none (by omega), List.getElem?_eq_none (by omega)]; rfl
theorem closure_of {P : Program} (hs : P.funcs.size = LT.length) (h : ∀ g, g < P.funcs.size → okF LT P g = true) (f : FuncId) : P.closure f = cvB LT (1 + (LT.map fun l => l.length + 1).sum) [f] 0 [] := by
  unfold Program.closure
  rw [fuel_of hs h]
  exact cvB_ok (leads_of hs h) _ _ _ _ fun g => by simp
theorem goesBy_no {P : Program} (h : ∀ fn ∈ P.funcs, fn.goes = false) (c : OpenClaim) : false = c.goesBy P := by
  have hg := goes_no h
  have e : P.goes = fun _ => false := funext hg
  unfold OpenClaim.goesBy Program.goesAt Program.goesFrom
  rw [e]
  have h1 : (P.funcNamed c.func).any (fun _ => false) = false := by cases P.funcNamed c.func <;> rfl
  have h2 : (P.inits.toList.any fun _ => false) = false := by simp
  rw [h1]
  cases c.start <;> simp [h2]
/-- what each function leads to -/
def LTs : List (List Nat) := [[], [], [1], [6, 8, 7, 9, 10], [6, 11, 13, 12, 13, 14], [6, 12, 14, 11, 13], [9], [15, 16, 17, 17, 17, 17, 17, 17, 18, 19], [20], [15, 21, 22, 23, 24, 12, 15, 21, 7, 21, 25, 26], [28, 27], [10, 10, 10, 10, 29, 10, 10, 29, 10, 10, 10, 10, 30], [24, 31], [32, 19, 16, 33, 34, 18], [35], [16], [36], [37, 38, 38, 39, 40], [41, 42, 42, 42, 26], [43, 43, 26], [45, 44, 45, 44], [25], [46], [47, 48, 49, 50, 51, 50], [52], [42], [], [53, 55, 54, 55, 54], [56, 56], [57, 27], [], [58, 59, 60, 33, 59], [], [], [61, 16], [], [62], [63], [40, 40], [45, 64], [63, 65, 66, 61, 67], [68, 69], [68], [68], [63], [70, 66], [71], [72, 50, 73, 50, 75, 74, 50], [76, 50, 73, 50], [], [], [77, 78, 79, 80, 81, 82, 50], [83, 84, 85], [86], [], [86, 87, 87], [89, 89, 88, 89, 89, 88, 89, 88, 90, 90], [56, 56], [32], [91, 61, 92, 16], [93, 94, 94], [95], [96, 97, 98, 99], [], [100, 66], [101], [], [102, 103, 103, 103, 103, 103, 41, 42, 104, 104, 104, 26, 42, 26], [105], [106], [], [], [75, 107, 75, 108, 109, 75, 110, 111], [49], [110, 112, 113], [], [114, 115, 116, 116, 117, 118, 119, 82, 120], [50, 121, 122, 123, 124, 50, 125], [126, 50, 127, 50, 50], [128, 122, 129, 128, 130, 131, 132, 133, 50, 125], [49, 50, 134, 135, 136, 137, 50], [50, 138, 50, 139, 8, 140], [119, 141, 141, 142, 143, 144, 145, 146, 147, 148, 150, 149], [151, 152], [151, 153, 85], [154], [], [155], [155], [], [155], [156, 157], [158, 157], [160, 159, 161, 163, 162, 165, 164], [166], [96, 97, 98, 99], [], [168, 167, 169], [], [170, 171], [], [172], [173, 174], [175], [], [], [], [176, 177, 178, 179], [107, 181, 180], [182, 183], [107], [184], [185, 185], [110, 186, 108], [149, 120, 187], [187], [188, 189, 190], [191, 191, 192, 194, 193, 194, 194, 194, 194, 195, 194, 194, 191, 196, 194, 194, 194, 197], [189, 189, 190], [198], [], [199, 176, 201, 200, 202, 178, 204, 203, 205], [206, 207, 141, 150, 115, 192], [122, 121, 208], [209, 45, 210, 211, 212], [122, 213], [214, 215, 123], [216, 185], [199, 217, 178, 218], [], [209, 219], [44], [215, 122, 217, 220], [221, 222, 220], [199, 176, 201, 201, 223, 202, 178, 204, 204, 224, 205], [225, 225, 226, 225, 122, 122, 134, 208], [211, 211, 227, 227, 228, 212], [229, 214, 135], [230, 231, 232, 234, 233, 236], [237, 238, 237, 239, 237, 241, 240, 243], [244, 237], [188, 245, 246], [247, 129, 247, 225, 248, 249, 250, 247, 251], [168, 141, 141], [199, 252, 141, 141, 246], [206, 141], [141, 246, 141, 141], [253, 141, 141, 145], [253, 141, 143], [187, 254], [], [], [255], [], [166, 256, 166, 257, 256, 258], [], [259, 259, 259, 259, 259, 259, 260], [261, 262, 263, 264], [265], [], [], [], [266], [266], [152, 267], [268, 267], [269], [], [], [], [], [270, 271], [168], [], [], [], [], [], [], [272, 273], [], [107, 252], [183, 183, 183], [], [], [168, 274], [], [], [], [], [], [194, 194, 194], [107, 189, 181, 252, 116, 116, 275, 276], [108, 192, 208], [277], [109, 189, 116, 275, 189, 116, 116], [110, 278, 116, 186, 193], [111, 278, 116, 277], [276], [107, 276], [279, 280], [], [], [281, 272, 283, 282, 284], [], [], [285, 286], [], [206, 144, 150, 115, 207, 116, 287], [], [45, 288, 44, 44, 289, 290], [291], [292, 293, 294, 295], [], [296, 226], [186, 297], [298], [199, 176, 201, 299, 131, 178, 300], [281, 272], [45, 288], [303, 302, 303, 302, 301], [304, 305, 8, 306], [273, 307], [279, 308, 308, 309], [281, 272, 310, 282], [], [311], [294], [219, 210, 219, 210], [313, 313, 312], [107, 315, 314], [], [8], [236, 236, 240, 316], [235], [318, 317, 319, 233, 321, 322, 323], [8, 220, 324, 325], [107, 217, 240, 305], [], [240], [302, 39, 39, 327, 326], [242], [8], [328, 305], [220, 242], [], [], [], [], [], [], [], [273, 273], [141, 141], [329], [], [], [], [330], [], [259, 259, 259, 259, 259, 259], [331], [331], [331, 16, 332], [331, 16, 332], [156], [], [333], [334, 152], [], [], [], [], [335, 168], [], [116], [107, 176, 201, 336, 178, 284], [275, 116], [116], [177, 336], [337, 309], [179, 284], [284], [], [179], [], [], [286, 285, 286, 286], [338, 66], [339, 63, 340, 340, 339, 44, 339, 326], [8, 220, 8, 220, 341, 339, 131, 243, 342, 343], [], [], [45, 210], [292, 219, 344, 293, 295], [], [], [345], [], [279, 45, 288], [281, 272], [346, 346], [327, 44], [39, 44], [347, 348, 131, 348, 131, 243, 8, 306, 8, 240], [303, 302, 303, 302, 349, 39, 39, 327, 326], [303, 302, 303, 302, 289], [350, 351, 352, 353, 354, 355, 356, 357, 307, 307], [358], [308], [], [70], [], [], [359], [276], [305], [316, 8, 243, 316], [360], [320], [232, 232, 361, 362, 233], [], [281, 284, 272], [321, 284, 232, 317], [273, 363], [365, 365, 366, 366, 365, 364], [339, 367, 339, 368, 368, 45, 369, 340, 44], [174, 100, 100, 66], [44], [370], [], [], [], [94, 371, 94, 257, 256], [], [], [177], [274], [], [], [], [303, 372], [373, 340, 373, 339, 39, 374], [63], [292, 375, 45, 346, 210], [174], [], [], [184, 376, 45, 45, 377], [64, 44, 369, 44, 369, 44], [], [378, 378], [379, 380], [381, 381, 381, 382], [], [], [], [], [274], [], [45, 288, 20, 326], [45, 131, 318, 240, 316, 45, 327, 45, 368], [320], [383, 384, 385, 386, 387, 388, 389, 390, 363, 363], [], [391, 391], [], [63, 368, 45], [63, 346, 45, 65, 66, 45, 392], [346, 393, 66], [], [], [368, 63, 45, 64, 369, 44, 44], [], [394, 63, 346, 274, 64, 369, 63], [70, 66], [395], [396, 396, 45, 396, 327, 327], [], [273], [], [382], [397, 397, 397], [], [398, 398], [379, 380], [399, 399, 399, 400], [], [], [], [], [], [172, 338, 338, 401, 66, 66, 375], [], [63, 346], [273, 174], [168], [], [], [400], [402, 402, 402], [101, 403, 100], [], [174, 100, 393, 393], [], [], [], [], [], [], [], [], [], [], [], [], [], [], [], [], [], [], [], [], [], [431], [432], [433], [430], [434], [435], [436, 437], [436, 438, 439], [], [436, 437], [436, 438, 439, 8, 8, 243, 240], [433], [45, 45, 440], [20, 20, 289], [339, 377, 39, 377, 340, 44, 326], [394, 374], [447], [448], [449], [446], [450], [451, 131], [452, 453, 453, 337], [452, 453, 360], [], [452, 453, 337], [452, 453, 45, 288, 45, 369], [449], [], [460], [461], [462], [463, 131], [464], [463, 131], [463, 463, 337], [463, 360], [], [462, 465], [463, 337], [466], [45, 467], [45, 288, 64, 346, 468, 469], [375, 288, 346, 45, 64, 64], [396], [], [], [], [], [], [], [], [], [], [], [], [332, 332]]
end Go.Proofs.YtdakiocgijlgiaaGreatDoor.scriptTexts
