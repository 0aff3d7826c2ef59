/- What functions lead to: a certificate, and what it is good for. Written by a program. -/
import Derived.Test.YtpobgdipcbglcaaGreatDoorProg
import Derived.KernelRfl
import GoSem.ClaimGoes
import Derived.JoinedOf
namespace Go.Proofs.YtpobgdipcbglcaaGreatDoor.kernelErrors
set_option maxRecDepth 100000
variable (LT : List (List Nat))
def okF (P : Program) (g : Nat) : Bool := match P.funcs[g]? with
  | some fn => decide (P.leadsTo fn = LT.getD g []) && !fn.goes
  | none => false
/-- the closure, by bits -/
def cvB : Nat → List Nat → Nat → List Nat → List Nat
  | 0, _, _, seen => seen.reverse
  | _, [], _, seen => seen.reverse
  | n + 1, f :: todo, mask, seen => match Nat.testBit mask f with
    | true => cvB n todo mask seen
    | false => cvB n (LT.getD f [] ++ todo) (mask ||| 2 ^ f) (f :: seen)
variable {LT}
theorem cvB_ok {P : Program} (h : ∀ f, (P.funcs[f]?).elim [] P.leadsTo = LT.getD f []) : ∀ (n : Nat) (todo seen : List Nat) (mask : Nat), (∀ g, mask.testBit g = seen.contains g) → P.closureVia n todo seen = cvB LT n todo mask seen
  | 0, todo, seen, mask, hm => by unfold Program.closureVia cvB; rfl
  | n + 1, [], seen, mask, hm => by unfold Program.closureVia cvB; rfl
  | n + 1, f :: todo, seen, mask, hm => by
    rw [Program.closureVia, cvB, h f, hm f]
    cases hc : seen.contains f
    · simp only [Bool.false_eq_true, if_false]
      refine cvB_ok h n _ _ _ fun g => ?_
      rw [Nat.testBit_or, hm g, Nat.testBit_two_pow, List.contains_cons, Bool.or_comm]
      congr 1
      rw [Bool.eq_iff_iff]
      simp only [decide_eq_true_eq, beq_iff_eq]
      exact eq_comm
    · simp only [if_true]
      exact cvB_ok h n todo seen mask hm
theorem leads_of {P : Program} (hs : P.funcs.size = LT.length) (h : ∀ g, g < P.funcs.size → okF LT P g = true) (f : Nat) : (P.funcs[f]?).elim [] P.leadsTo = LT.getD f [] := by
  by_cases hf : f < P.funcs.size
  · have h1 := h f hf
    unfold okF at h1
    rw [Array.getElem?_eq_getElem hf] at h1 ⊢
    simp only [Bool.and_eq_true, decide_eq_true_eq] at h1
    exact h1.1
  · rw [Array.getElem?_eq_none (by omega), List.getD_eq_getElem?_getD, List.getElem?_eq_none (by omega)]
    rfl
theorem goes_of {P : Program} (h : ∀ g, g < P.funcs.size → okF LT P g = true) : ∀ fn ∈ P.funcs, fn.goes = false := fun fn hfn => by
  obtain ⟨i, hi, rfl⟩ := Array.getElem_of_mem hfn
  have h1 := h i hi
  unfold okF at h1
  rw [Array.getElem?_eq_getElem hi] at h1
  simp only [Bool.and_eq_true, Bool.not_eq_true'] at h1
  exact h1.2
theorem goes_no {P : Program} (h : ∀ fn ∈ P.funcs, fn.goes = false) (f : FuncId) : P.goes f = false := by
  have h1 : ∀ g : Nat, (P.funcs[g]?).any Func.goes = false := fun g => by
    cases hg : P.funcs[g]? with
    | none => rfl
    | some fn => exact h fn (Array.mem_of_getElem? hg)
  have h2 : P.funcs.any Func.goes = false := by
    rw [Array.any_eq_false']
    intro fn hfn
    rw [h fn hfn]; exact Bool.false_ne_true
  unfold Program.goes
  rw [h2, Bool.and_false, Bool.or_false, List.any_eq_false]
  intro g _
  rw [h1 g]; exact Bool.false_ne_true
theorem fuel_of {P : Program} (hs : P.funcs.size = LT.length) (h : ∀ g, g < P.funcs.size → okF LT P g = true) : (P.funcs.toList.map fun g => (P.leadsTo g).length + 1) = LT.map fun l => l.length + 1 := by
  refine List.ext_getElem? fun i => ?_
  have h1 := leads_of hs h i
  rw [List.getElem?_map, List.getElem?_map, Array.getElem?_toList]
  by_cases hi : i < P.funcs.size
  · rw [Array.getElem?_eq_getElem hi] at h1 ⊢
    rw [List.getElem?_eq_getElem (by omega : i < LT.length)]
    rw [List.getD_eq_getElem?_getD, List.getElem?_eq_getElem (by omega : i < LT.length)] at h1
    simp only [Option.elim_some, Option.getD_some] at h1
    simp only [Option.map_some, h1]
  · rw [Array.getElem?_eq_none (by omega), List.getElem?_eq_none (by omega)]; rfl
theorem closure_of {P : Program} (hs : P.funcs.size = LT.length) (h : ∀ g, g < P.funcs.size → okF LT P g = true) (f : FuncId) : P.closure f = cvB LT (1 + (LT.map fun l => l.length + 1).sum) [f] 0 [] := by
  unfold Program.closure
  rw [fuel_of hs h]
  exact cvB_ok (leads_of hs h) _ _ _ _ fun g => by simp
theorem goesBy_no {P : Program} (h : ∀ fn ∈ P.funcs, fn.goes = false) (c : OpenClaim) : false = c.goesBy P := by
  have hg := goes_no h
  have e : P.goes = fun _ => false := funext hg
  unfold OpenClaim.goesBy Program.goesAt Program.goesFrom
  rw [e]
  have h1 : (P.funcNamed c.func).any (fun _ => false) = false := by cases P.funcNamed c.func <;> rfl
  have h2 : (P.inits.toList.any fun _ => false) = false := by simp
  rw [h1]
  cases c.start <;> simp [h2]
/-- what each function leads to -/
def LTs : List (List Nat) := [[], [], [1], [5, 6, 7, 8, 7, 6, 8, 9, 10], [11, 12, 13, 13, 13, 14], [6, 15, 15], [16, 17, 18, 20, 19, 21, 22, 18, 23, 19, 24, 19], [16, 25, 19, 26, 19], [16, 27, 20, 19, 22, 22, 28, 28, 29, 19, 30, 19, 31, 19], [32], [33, 34, 36, 36, 35, 37, 38, 40, 40, 39, 41], [12, 13, 13, 13, 15], [9], [42, 43, 44, 45, 46, 45], [44, 47], [48, 49, 49, 50, 51], [52], [21, 53], [54], [55, 56, 57, 58, 59, 60], [], [63, 65, 64, 68, 67, 66], [], [69], [53, 70, 71, 72, 74, 73, 75, 76, 77, 78], [79, 80, 81, 83, 82, 21, 83, 18, 23, 79, 84], [85, 85, 86, 87, 88, 90, 89, 91, 92, 94, 93, 97, 64, 98, 68, 67, 91, 99], [100, 101, 102], [], [103, 104, 90, 105, 28, 21, 21, 22, 27, 107, 106], [108, 108, 109, 109, 110, 111, 70, 70, 90, 112, 113, 114, 109, 113, 116, 117, 113, 71, 72, 119, 75, 78], [83, 83, 81, 81, 120, 79, 79, 80, 80, 29, 79, 79, 84], [], [121, 122], [], [123, 124, 124, 125], [], [], [], [126, 127, 129, 128], [], [], [130, 45, 131, 45, 133, 132, 45], [134, 45, 131, 45], [], [], [135, 136, 137, 138, 139, 61, 45], [52, 140, 141, 142, 143], [144], [51, 51], [74, 145], [144, 146, 147, 148, 149], [122], [], [150, 151, 152, 154, 153, 102], [], [61], [156, 157], [], [159, 158], [61, 61, 62], [16, 64, 64, 160, 98, 161, 162, 163, 164, 165, 68, 166], [167], [168, 169], [170, 171, 172], [], [121, 173, 174, 175, 176, 176, 177, 122], [178], [], [140, 179], [108, 180, 119, 109, 53], [], [181, 172, 181, 68], [74, 182, 183, 182, 184, 186, 186, 185, 187, 144, 188, 90, 96], [189, 147], [156, 157], [71, 190, 75, 191], [192, 194, 193, 71, 72, 74, 73, 75, 196, 195, 194, 193, 76, 77], [197], [], [83, 198, 199, 179], [], [200, 201], [], [202, 203], [], [205, 205, 204], [], [64, 181, 68], [156, 157], [205], [], [], [87, 190, 89, 206], [95, 95, 90, 96], [], [207, 157], [64, 64], [208, 64, 64], [209, 210, 176, 211], [150, 151], [212, 213, 213, 102, 102, 190, 214, 215, 153], [90, 156, 217, 218], [], [162, 68], [156, 157], [103, 190, 105, 219], [23], [], [], [], [72, 72, 181, 68], [156, 157], [110, 190, 112, 220], [115], [196, 195], [115], [118], [71, 72, 221, 73, 221, 73, 190, 75, 76, 77], [], [], [34, 222, 38, 223], [121, 34, 36, 224, 38, 225], [222, 224], [226], [124], [223, 225], [], [225], [], [133, 121, 133, 198, 227, 133, 228, 209], [44], [228, 229, 230], [], [231, 67, 176, 176, 232, 233, 16, 61, 234], [45, 235, 21, 236, 237, 45, 238], [239, 45, 240, 45, 45], [241, 21, 22, 241, 242, 186, 243, 244, 45, 238], [44, 45, 10, 245, 246, 247, 45], [45, 54, 45, 248, 90, 249], [250], [251], [252, 140], [253], [], [254, 147], [255], [], [256], [257, 258, 258, 258, 258, 258, 259, 260, 261, 261, 261, 262, 260, 262], [121, 264, 263], [], [90], [102, 102, 190, 214], [155], [266, 265, 267, 153, 268, 269, 270], [273, 272, 273, 272, 271], [273, 272, 273, 272, 275, 50, 50, 276, 274], [277, 278, 279, 280, 281, 282, 283, 284, 158, 158], [285, 208], [286, 22, 286, 28, 108, 109, 83, 286, 91], [33, 175, 64, 64, 172], [63, 64], [64, 172, 64, 64], [97, 64, 64, 162], [97, 64, 98], [178, 287], [288, 288], [], [], [], [], [], [], [121, 175], [159, 159], [170, 173, 289], [176], [], [63, 161, 68, 67, 65, 176, 290], [], [97], [291, 147], [189, 147], [292, 293, 147], [273, 272, 273, 272, 204], [294], [144], [90], [], [272, 50, 50, 276, 274], [], [], [90], [295], [296, 76, 297, 76], [71, 72, 90, 75], [64, 172, 64, 64, 68, 67, 299], [121, 174, 300], [21], [], [301], [302, 303, 90, 304, 306, 305], [97, 81, 64, 64, 162, 68, 67, 83, 308], [309, 144, 310, 310, 309, 294, 309, 274], [74, 294, 74, 294], [], [294], [], [311], [176], [177, 176], [152, 268, 269, 312, 153, 313, 153], [152, 153, 314], [157], [216], [152, 152, 314, 315, 153], [159, 316], [318, 318, 319, 319, 318, 317], [], [], [74, 182], [], [127, 159], [222], [223], [320], [321, 322], [121], [323, 323], [228, 200, 198], [166, 234, 178], [324, 324, 66, 326, 325, 326, 326, 326, 326, 299, 326, 326, 324, 308, 326, 326, 326, 99], [173, 173, 289], [], [33, 34, 36, 327, 37, 38, 40, 328, 41], [21, 235, 179], [53, 74, 329, 141, 330], [21, 119], [142, 82, 236], [143, 323], [33, 331, 38, 332], [53, 333], [82, 21, 331, 156], [334, 335, 156], [28, 28, 140, 28, 21, 21, 10, 179], [141, 141, 336, 336, 337, 330], [338, 142, 245], [339, 340, 339, 341, 339, 342, 190, 96], [344, 339], [189], [], [], [], [], [345], [346, 347, 348, 349], [350, 351], [352], [353, 354], [353], [], [], [355], [122], [214, 90, 96, 214], [356], [216], [], [126, 225, 127], [268, 225, 152, 265], [292, 292], [276, 294], [50, 294], [309, 357, 309, 358, 358, 74, 184, 310, 294], [145, 294, 184, 294, 184, 294], [351, 254, 254, 147], [], [359, 359], [360, 361], [362, 362, 362, 363], [], [], [], [], [], [], [364], [], [], [169, 168, 169, 169], [], [], [], [144], [251], [193], [298], [192, 221, 183, 187, 73, 194, 74, 73, 194, 190], [227, 173, 176, 177, 173, 176, 176], [], [351], [], [162, 68], [156, 157], [302, 190, 304, 365], [307], [], [228, 210, 176, 200, 325], [], [], [], [268, 269, 185, 270], [152], [74, 186, 266, 190, 214, 74, 276, 74, 358], [216], [366, 367, 368, 369, 370, 371, 372, 373, 316, 316], [], [374, 374], [], [], [322, 322, 322], [], [208, 320], [326, 326, 326], [198, 66, 179], [211], [123, 375], [126, 127, 376, 128, 225], [74, 182, 294, 294, 204, 377], [378, 379, 380, 381], [33, 34, 36, 382, 186, 38, 383], [126, 127], [74, 182], [384, 157, 90, 185], [159, 385], [380], [333, 329, 333, 329], [81, 81, 120], [121, 331, 190, 157], [], [190], [343], [90], [156, 343], [208], [], [208, 386, 387], [], [388, 389], [], [], [], [390], [391], [], [74, 182, 205, 274], [144, 358, 74], [144, 292, 74, 146, 147, 74, 392], [], [159], [], [363], [393, 393, 393], [394], [], [], [395, 395], [360, 361], [396, 396, 396, 397], [], [], [], [], [], [398, 125], [], [90, 156, 90, 156, 399, 309, 186, 96, 400, 187], [], [74, 329], [378, 333, 401, 379, 381], [], [123, 74, 182], [126, 127], [92, 402, 186, 402, 186, 96, 90, 185, 90, 190], [403, 404, 405, 406, 407, 408, 409, 410, 385, 385], [], [], [], [411, 412], [], [], [345, 291, 291, 413, 147, 147, 183], [], [], [], [397], [414, 414, 414], [320], [273, 415], [416, 310, 416, 309, 50, 417], [378, 183, 74, 292, 329], [311, 418, 74, 74, 419], [], [420, 420], [360, 361], [421, 421, 421, 422], [], [], [], [], [], [], [255, 423, 254], [], [358, 144, 74, 145, 184, 294, 294], [], [424, 144, 292, 320, 145, 184, 144], [425], [426, 426, 74, 426, 276, 276], [], [422], [427, 427, 427], [351, 254, 293, 293], [144, 292], [159, 351], [208], [], [], [], [], [], [], [], [], [], [], [], [], [], [], [], [], [], [], [451], [452], [453], [450], [454], [455], [456, 457], [456, 86, 458], [], [456, 457], [456, 86, 458, 90, 90, 96, 190], [453], [74, 74, 459], [309, 419, 50, 419, 310, 294, 274], [424, 417], [466], [467], [468], [465], [469], [470, 186], [471, 472, 472, 398], [471, 472, 356], [], [471, 472, 398], [471, 472, 74, 182, 74, 184], [468], [], [479], [480], [481], [482, 186], [483], [482, 186], [482, 482, 398], [482, 356], [], [481, 484], [482, 398], [485], [74, 486], [74, 182, 145, 292, 487, 488], [183, 182, 292, 74, 145, 145], [426], [], [], [], [], [], [], [], [], []]
end Go.Proofs.YtpobgdipcbglcaaGreatDoor.kernelErrors
