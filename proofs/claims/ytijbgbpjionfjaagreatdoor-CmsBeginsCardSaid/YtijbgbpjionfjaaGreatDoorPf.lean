/- Parts of the proof: PackM, Pack1, Pack2, Carr1, Carr2, Carr3, Carr6, AmUn, Cms1, FlatM, Cms2, CmsF, Cms3, Div1, Mul2, Rat2, DivN, Nat8, Nat9, Nat10, Rat3, RatQ, Rat4, Rat5. -/
import Derived.Test.YtijbgbpjionfjaaGreatDoorPe
set_option linter.unusedVariables false
set_option linter.unusedSimpArgs false
set_option maxRecDepth 100000
namespace Go.Proofs.YtijbgbpjionfjaaGreatDoor.Am
section
/-- a number of bits, the lowest first -/
def ofB (f : Nat → Bool) : Nat → Nat
  | 0 => 0
  | n + 1 => ofB f n + (if f n then 2 ^ n else 0)
theorem ofB_lt (f : Nat → Bool) : ∀ n, ofB f n < 2 ^ n
  | 0 => by simp [ofB]
  | n + 1 => by
    have := ofB_lt f n
    rw [ofB, Nat.pow_succ]
    split <;> omega
theorem ofB_bit (f : Nat → Bool) : ∀ n i, i < n → (ofB f n).testBit i = f i
  | 0, i, h => by omega
  | n + 1, i, h => by
    have hl := ofB_lt f n
    rw [ofB]
    by_cases hi : i = n
    · subst hi
      split
      · rename_i hf
        rw [Nat.add_comm, Nat.testBit_two_pow_add_eq, Nat.testBit_lt_two_pow hl, hf]; rfl
      · rename_i hf
        rw [Nat.add_zero, Nat.testBit_lt_two_pow hl]; simpa using hf
    · split
      · rw [Nat.add_comm, Nat.testBit_two_pow_add_gt (by omega), ofB_bit f n i (by omega)]
      · rw [Nat.add_zero, ofB_bit f n i (by omega)]
theorem ofB_ext {f g : Nat → Bool} : ∀ n, (∀ i, i < n → f i = g i) → ofB f n = ofB g n
  | 0, _ => rfl
  | n + 1, h => by rw [ofB, ofB, ofB_ext n (fun i hi => h i (by omega)), h n (by omega)]
/-- bits of numbers of one width, one behind the other -/
def bitX (w : Nat) (xs : List Nat) (k : Nat) : Bool := (xs.getD (k / w) 0).testBit (k % w)
def nwP (n w : Nat) : Nat := (n * w + 63) / 64
/-- words that hold them -/
def wordsP (w : Nat) (xs : List Nat) : List Nat := (List.range (nwP xs.length w)).map fun j => ofB (fun b => bitX w xs (64 * j + b)) 64
@[simp] theorem wordsP_len (w : Nat) (xs : List Nat) : (wordsP w xs).length = nwP xs.length w := by simp [wordsP]
theorem wordsP_get {w : Nat} {xs : List Nat} {j : Nat} (h : j < nwP xs.length w) : (wordsP w xs).getD j 0 = ofB (fun b => bitX w xs (64 * j + b)) 64 := by
  unfold wordsP; rw [List.getD_eq_getElem?_getD, List.getElem?_map, List.getElem?_range h]; rfl
theorem wordsP_lt {w : Nat} {xs : List Nat} (j : Nat) : (wordsP w xs).getD j 0 < 2 ^ 64 := by
  by_cases h : j < nwP xs.length w
  · rw [wordsP_get h]; exact ofB_lt _ _
  · rw [List.getD_eq_getElem?_getD, List.getElem?_eq_none (by simp; omega)]; simp
theorem wordsP_bit {w : Nat} {xs : List Nat} {j b : Nat} (h : j < nwP xs.length w) (hb : b < 64) : ((wordsP w xs).getD j 0).testBit b = bitX w xs (64 * j + b) := by rw [wordsP_get h, ofB_bit _ _ _ hb]
theorem bitX_at {w : Nat} {xs : List Nat} {i b : Nat} (hb : b < w) : bitX w xs (i * w + b) = (xs.getD i 0).testBit b := by
  unfold bitX
  rw [Nat.mul_comm, Nat.mul_add_div (by omega), Nat.div_eq_of_lt hb, Nat.add_zero, Nat.mul_add_mod, Nat.mod_eq_of_lt hb]
theorem bitX_set {w : Nat} {xs : List Nat} {i v k : Nat} (hw : 0 < w) (hi : i < xs.length) : bitX w (xs.set i v) k = if i * w ≤ k ∧ k < i * w + w then v.testBit (k - i * w) else bitX w xs k := by
  unfold bitX
  have e := Nat.div_add_mod k w
  have hm := Nat.mod_lt k hw
  rw [List.getD_eq_getElem?_getD, List.getD_eq_getElem?_getD, List.getElem?_set]
  by_cases h : i = k / w
  · subst h
    have e2 : k / w * w = w * (k / w) := Nat.mul_comm _ _
    rw [if_pos rfl, if_pos hi, if_pos (by omega), show k - k / w * w = k % w by omega]
    rfl
  · rw [if_neg h, if_neg]
    rintro ⟨h1, h2⟩
    apply h
    have h3 : i ≤ k / w := (Nat.le_div_iff_mul_le hw).2 h1
    have h4 : k / w < i + 1 := (Nat.div_lt_iff_lt_mul hw).2 (by rw [Nat.add_mul]; omega)
    omega

def smallP (w : Nat) (xs : List Nat) : Prop := ∀ x ∈ xs, x < 2 ^ w
theorem smallP_get {w : Nat} {xs : List Nat} (h : smallP w xs) (i : Nat) : xs.getD i 0 < 2 ^ w := by
  rw [List.getD_eq_getElem?_getD]
  cases hx : xs[i]? with
  | none => simp [Nat.two_pow_pos]
  | some x => exact h x (List.mem_of_getElem? hx)

theorem div_bit (x r b : Nat) : (x / 2 ^ r).testBit b = x.testBit (r + b) := by rw [Nat.testBit_div_two_pow, Nat.add_comm]
theorem shl_bit (x s b : Nat) : (x * 2 ^ s % 2 ^ 64).testBit b = (decide (b < 64) && (decide (s ≤ b) && x.testBit (b - s))) := by rw [Nat.testBit_mod_two_pow, Nat.testBit_mul_two_pow]
theorem mask_bit (w b : Nat) : (2 ^ w - 1).testBit b = decide (b < w) := Nat.testBit_two_pow_sub_one w b

/-- what is read, when it lies in one word -/
theorem pget1 {w : Nat} {xs : List Nat} {i : Nat} (hs : smallP w xs) (hw : w ≤ 32) (hi : i < xs.length) (hr : i * w % 64 + w ≤ 64) : (wordsP w xs).getD (i * w / 64) 0 / 2 ^ (i * w % 64) &&& (2 ^ w - 1) = xs.getD i 0 := by
  have e := Nat.div_add_mod (i * w) 64
  by_cases hw0 : w = 0
  · subst hw0
    have := smallP_get hs i
    simp at this ⊢; omega
  have hle : i * w + w ≤ xs.length * w := by rw [← Nat.succ_mul]; exact Nat.mul_le_mul_right w hi
  apply Nat.eq_of_testBit_eq
  intro b
  rw [Nat.testBit_and, mask_bit, div_bit]
  by_cases hb : b < w
  · rw [wordsP_bit (by unfold nwP; omega) (by omega), show 64 * (i * w / 64) + (i * w % 64 + b) = i * w + b by omega, bitX_at hb]
    simp [hb]
  · have : (xs.getD i 0).testBit b = false := Nat.testBit_lt_two_pow (Nat.lt_of_lt_of_le (smallP_get hs i) (Nat.pow_le_pow_right (by omega) (by omega)))
    rw [this]; simp [hb]
/-- in two words -/
theorem pget2 {w : Nat} {xs : List Nat} {i : Nat} (hs : smallP w xs) (hw : w ≤ 32) (hi : i < xs.length) (hr : 64 < i * w % 64 + w) : ((wordsP w xs).getD (i * w / 64) 0 / 2 ^ (i * w % 64) ||| (wordsP w xs).getD (i * w / 64 + 1) 0 * 2 ^ (64 - i * w % 64) % 2 ^ 64) &&& (2 ^ w - 1) = xs.getD i 0 := by
  have e := Nat.div_add_mod (i * w) 64
  have hle : i * w + w ≤ xs.length * w := by rw [← Nat.succ_mul]; exact Nat.mul_le_mul_right w hi
  apply Nat.eq_of_testBit_eq
  intro b
  rw [Nat.testBit_and, mask_bit, Nat.testBit_or, div_bit, shl_bit]
  by_cases hb : b < w
  · by_cases h64 : i * w % 64 + b < 64
    · rw [wordsP_bit (by unfold nwP; omega) h64, show 64 * (i * w / 64) + (i * w % 64 + b) = i * w + b by omega, bitX_at hb]
      have : ¬ 64 - i * w % 64 ≤ b := by omega
      simp [hb, this]
    · have h1 : ((wordsP w xs).getD (i * w / 64) 0).testBit (i * w % 64 + b) = false := Nat.testBit_lt_two_pow (Nat.lt_of_lt_of_le (wordsP_lt _) (Nat.pow_le_pow_right (by omega) (by omega)))
      rw [h1, wordsP_bit (j := i * w / 64 + 1) (by unfold nwP; omega) (by omega), show 64 * (i * w / 64 + 1) + (b - (64 - i * w % 64)) = i * w + b by omega, bitX_at hb]
      have h2 : 64 - i * w % 64 ≤ b := by omega
      have h3 : b < 64 := by omega
      simp [hb, h2, h3]
  · have : (xs.getD i 0).testBit b = false := Nat.testBit_lt_two_pow (Nat.lt_of_lt_of_le (smallP_get hs i) (Nat.pow_le_pow_right (by omega) (by omega)))
    rw [this]; simp [hb]

/-- bits taken out -/
def andN (x y : Nat) : Nat := x &&& (2 ^ 64 - 1 - y)
theorem andN_bit {x y : Nat} (hx : x < 2 ^ 64) (hy : y < 2 ^ 64) (b : Nat) : (andN x y).testBit b = (x.testBit b && !y.testBit b) := by
  unfold andN
  rw [Nat.testBit_and, Nat.sub_sub, Nat.add_comm 1 y, Nat.testBit_two_pow_sub_succ hy]
  by_cases hb : b < 64
  · simp [hb]
  · have : x.testBit b = false := Nat.testBit_lt_two_pow (Nat.lt_of_lt_of_le hx (Nat.pow_le_pow_right (by omega) (by omega)))
    simp [this]

theorem word_eq {x : Nat} {f : Nat → Bool} (hx : x < 2 ^ 64) (h : ∀ b, b < 64 → x.testBit b = f b) : x = ofB f 64 := by
  apply Nat.eq_of_testBit_eq
  intro b
  by_cases hb : b < 64
  · rw [h b hb, ofB_bit _ _ _ hb]
  · have h2 : 2 ^ 64 ≤ 2 ^ b := Nat.pow_le_pow_right (by omega) (by omega)
    rw [Nat.testBit_lt_two_pow (Nat.lt_of_lt_of_le hx h2), Nat.testBit_lt_two_pow (Nat.lt_of_lt_of_le (ofB_lt f 64) h2)]

/-- the first word -/
def setW1 (w : Nat) (x v r : Nat) : Nat := andN x ((2 ^ w - 1) * 2 ^ r % 2 ^ 64) ||| v * 2 ^ r % 2 ^ 64
/-- the second one -/
def setW2 (w : Nat) (x v s : Nat) : Nat := andN x ((2 ^ w - 1) / 2 ^ s) ||| v / 2 ^ s
theorem andN_lt {x y : Nat} (hx : x < 2 ^ 64) : andN x y < 2 ^ 64 := Nat.lt_of_le_of_lt Nat.and_le_left hx
theorem set_w1 {w : Nat} {xs : List Nat} {i v : Nat} (hw : w ≤ 32) (hw0 : 0 < w) (hi : i < xs.length) (hv : v < 2 ^ w) : setW1 w ((wordsP w xs).getD (i * w / 64) 0) v (i * w % 64) = (wordsP w (xs.set i v)).getD (i * w / 64) 0 := by
  have e := Nat.div_add_mod (i * w) 64
  have hle : i * w + w ≤ xs.length * w := by rw [← Nat.succ_mul]; exact Nat.mul_le_mul_right w hi
  have hm : i * w % 64 < 64 := Nat.mod_lt _ (by omega)
  rw [wordsP_get (xs := xs.set i v) (by simp only [List.length_set]; unfold nwP; omega)]
  apply word_eq
  · exact Nat.or_lt_two_pow (andN_lt (wordsP_lt _)) (Nat.mod_lt _ (by omega))
  · intro b hb
    unfold setW1
    rw [Nat.testBit_or, andN_bit (wordsP_lt _) (Nat.mod_lt _ (by omega)), shl_bit, shl_bit, mask_bit, wordsP_bit (by unfold nwP; omega) hb, bitX_set hw0 hi]
    by_cases h1 : i * w % 64 ≤ b
    · by_cases h2 : b < i * w % 64 + w
      · rw [if_pos (by omega), show 64 * (i * w / 64) + b - i * w = b - i * w % 64 by omega]
        have h3 : b - i * w % 64 < w := by omega
        simp [hb, h1, h3]
      · rw [if_neg (by omega)]
        have h3 : ¬ b - i * w % 64 < w := by omega
        have h4 : v.testBit (b - i * w % 64) = false := Nat.testBit_lt_two_pow (Nat.lt_of_lt_of_le hv (Nat.pow_le_pow_right (by omega) (by omega)))
        simp [hb, h1, h3, h4]
    · rw [if_neg (by omega)]
      simp [hb, h1]
theorem set_w2 {w : Nat} {xs : List Nat} {i v : Nat} (hw : w ≤ 32) (hi : i < xs.length) (hv : v < 2 ^ w) (hr : 64 < i * w % 64 + w) : setW2 w ((wordsP w xs).getD (i * w / 64 + 1) 0) v (64 - i * w % 64) = (wordsP w (xs.set i v)).getD (i * w / 64 + 1) 0 := by
  have e := Nat.div_add_mod (i * w) 64
  have hle : i * w + w ≤ xs.length * w := by rw [← Nat.succ_mul]; exact Nat.mul_le_mul_right w hi
  have hm : i * w % 64 < 64 := Nat.mod_lt _ (by omega)
  have h32 : 2 ^ w ≤ 2 ^ 32 := Nat.pow_le_pow_right (by omega) hw
  have hv64 : v / 2 ^ (64 - i * w % 64) < 2 ^ 64 := Nat.lt_of_le_of_lt (Nat.div_le_self _ _) (by omega)
  have hm64 : (2 ^ w - 1) / 2 ^ (64 - i * w % 64) < 2 ^ 64 := Nat.lt_of_le_of_lt (Nat.div_le_self _ _) (by omega)
  rw [wordsP_get (xs := xs.set i v) (by simp only [List.length_set]; unfold nwP; omega)]
  apply word_eq
  · exact Nat.or_lt_two_pow (andN_lt (wordsP_lt _)) hv64
  · intro b hb
    unfold setW2
    rw [Nat.testBit_or, andN_bit (wordsP_lt _) hm64, div_bit, div_bit, mask_bit, wordsP_bit (by unfold nwP; omega) hb, bitX_set (by omega) hi]
    by_cases h2 : 64 - i * w % 64 + b < w
    · rw [if_pos (by omega), show 64 * (i * w / 64 + 1) + b - i * w = 64 - i * w % 64 + b by omega]
      simp [h2]
    · rw [if_neg (by omega)]
      have h4 : v.testBit (64 - i * w % 64 + b) = false := Nat.testBit_lt_two_pow (Nat.lt_of_lt_of_le hv (Nat.pow_le_pow_right (by omega) (by omega)))
      simp [h2, h4]
theorem set_other {w : Nat} {xs : List Nat} {i v j : Nat} (hw0 : 0 < w) (hi : i < xs.length) (h1 : j ≠ i * w / 64) (h2 : i * w % 64 + w ≤ 64 ∨ j ≠ i * w / 64 + 1) (hw : w ≤ 32) : (wordsP w (xs.set i v))[j]? = (wordsP w xs)[j]? := by
  have e := Nat.div_add_mod (i * w) 64
  have hm : i * w % 64 < 64 := Nat.mod_lt _ (by omega)
  unfold wordsP
  simp only [List.length_set, List.getElem?_map]
  cases hj : (List.range (nwP xs.length w))[j]? with
  | none => rfl
  | some j' =>
    have : j' = j := by
      have := List.getElem?_eq_some_iff.1 hj
      obtain ⟨h, rfl⟩ := this
      simp
    subst this
    simp only [Option.map_some, Option.some.injEq]
    apply ofB_ext
    intro b hb
    rw [bitX_set hw0 hi, if_neg]
    omega
/-- a number is put into its place -/
theorem pset1 {w : Nat} {xs : List Nat} {i v : Nat} (hw : w ≤ 32) (hw0 : 0 < w) (hi : i < xs.length) (hv : v < 2 ^ w) (hr : i * w % 64 + w ≤ 64) : (wordsP w xs).set (i * w / 64) (setW1 w ((wordsP w xs).getD (i * w / 64) 0) v (i * w % 64)) = wordsP w (xs.set i v) := by
  have e := Nat.div_add_mod (i * w) 64
  have hle : i * w + w ≤ xs.length * w := by rw [← Nat.succ_mul]; exact Nat.mul_le_mul_right w hi
  have hq : i * w / 64 < nwP xs.length w := by unfold nwP; omega
  rw [set_w1 hw hw0 hi hv]
  apply List.ext_getElem?
  intro j
  rw [List.getElem?_set]
  by_cases h : i * w / 64 = j
  · subst h
    rw [if_pos rfl, if_pos (by simpa using hq), List.getD_eq_getElem?_getD, List.getElem?_eq_getElem (by simpa using hq)]; rfl
  · rw [if_neg h, set_other hw0 hi (fun h' => h h'.symm) (.inl hr) hw]
theorem pset2 {w : Nat} {xs : List Nat} {i v : Nat} (hw : w ≤ 32) (hi : i < xs.length) (hv : v < 2 ^ w) (hr : 64 < i * w % 64 + w) :
    ((wordsP w xs).set (i * w / 64) (setW1 w ((wordsP w xs).getD (i * w / 64) 0) v (i * w % 64))).set (i * w / 64 + 1) (setW2 w ((wordsP w xs).getD (i * w / 64 + 1) 0) v (64 - i * w % 64)) = wordsP w (xs.set i v) := by
  have e := Nat.div_add_mod (i * w) 64
  have hle : i * w + w ≤ xs.length * w := by rw [← Nat.succ_mul]; exact Nat.mul_le_mul_right w hi
  have hq : i * w / 64 + 1 < nwP xs.length w := by unfold nwP; omega
  rw [set_w1 hw (by omega) hi hv, set_w2 hw hi hv hr]
  apply List.ext_getElem?
  intro j
  rw [List.getElem?_set, List.getElem?_set]
  by_cases h2 : i * w / 64 + 1 = j
  · subst h2
    rw [if_pos rfl, if_pos (by simpa using hq), List.getD_eq_getElem?_getD, List.getElem?_eq_getElem (by simpa using hq)]; rfl
  · rw [if_neg h2]
    by_cases h : i * w / 64 = j
    · subst h
      rw [if_pos rfl, if_pos (by simp; omega), List.getD_eq_getElem?_getD, List.getElem?_eq_getElem (by simp; omega)]; rfl
    · rw [if_neg h, set_other (by omega) hi (fun h' => h h'.symm) (.inr fun h' => h2 h'.symm) hw]
theorem wordsP_zero (n w : Nat) : wordsP w (List.replicate n 0) = List.replicate (nwP n w) 0 := by
  apply List.ext_getElem?
  intro j
  unfold wordsP
  simp only [List.getElem?_map, List.length_replicate, List.getElem?_replicate]
  by_cases h : j < nwP n w
  · rw [List.getElem?_range h, if_pos h]
    simp only [Option.map_some, Option.some.injEq]
    have h0 : ∀ k, bitX w (List.replicate n 0) k = false := by
      intro k
      unfold bitX
      have : (List.replicate n 0).getD (k / w) 0 = 0 := by
        rw [List.getD_eq_getElem?_getD, List.getElem?_replicate]; split <;> rfl
      rw [this]; simp
    simp only [h0]
    decide
  · rw [List.getElem?_eq_none (by simp; omega), if_neg h]; rfl
end
end Go.Proofs.YtijbgbpjionfjaaGreatDoor.Am
namespace Go.Proofs.YtijbgbpjionfjaaGreatDoor.Am
section
open Go.RowKit
/-- words in cells -/
def u64s (ws : List Nat) : List V := ws.map fun x : Nat => V.d (.int .u64 x)
theorem u64s_length (ws : List Nat) : (u64s ws).length = ws.length := by simp [u64s]
theorem u64s_get {ws : List Nat} {j : Nat} (h : j < ws.length) : (u64s ws)[j]? = some (.d (.int .u64 (ws.getD j 0 : Nat))) := by simp [u64s, h]
theorem u64s_set (ws : List Nat) (j v : Nat) : (u64s ws).set j (.d (.int .u64 v)) = u64s (ws.set j v) := by simp [u64s, List.map_set]
@[simp] theorem u64s_low (n : Nat) (ws : List Nat) : V.lowl n (u64s ws) = true := by induction ws <;> simp_all [u64s]
@[simp] theorem u64s_ren (θ : Nat → Nat) (ws : List Nat) : V.rens θ (u64s ws) = u64s ws := by induction ws <;> simp_all [u64s]
/-- a vector's variable, its words -/
def vecO (m n w : Nat) : Ob := ⟨218, [.own m 1 (nwP n w), .d (.int .i64 n), .d (.int .i64 w)]⟩
def vecB (w : Nat) (xs : List Nat) : Ob := ⟨28, u64s (wordsP w xs)⟩

theorem and_u64 (x y : Nat) (hx : x < 18446744073709551616) (hy : y < 18446744073709551616) : bits BinOp.and IntKind.u64 (x : Int) (y : Int) = ((x &&& y : Nat) : Int) := by
  show IntKind.u64.wrap (((BitVec.ofInt 64 (x : Int)) &&& (BitVec.ofInt 64 (y : Int))).toNat : Int) = _
  rw [BitVec.toNat_and, BitVec.ofInt_natCast, BitVec.ofInt_natCast, BitVec.toNat_ofNat, BitVec.toNat_ofNat, Nat.mod_eq_of_lt (by omega), Nat.mod_eq_of_lt (by omega)]
  have : x &&& y ≤ x := Nat.and_le_left
  rw [IntKind.wrap_u64]
  omega
theorem andNot_u64 (x y : Nat) (hx : x < 18446744073709551616) (hy : y < 18446744073709551616) : bits BinOp.andNot IntKind.u64 (x : Int) (y : Int) = ((andN x y : Nat) : Int) := by
  show IntKind.u64.wrap (((BitVec.ofInt 64 (x : Int)) &&& ~~~(BitVec.ofInt 64 (y : Int))).toNat : Int) = _
  rw [BitVec.toNat_and, BitVec.toNat_not, BitVec.ofInt_natCast, BitVec.ofInt_natCast, BitVec.toNat_ofNat, BitVec.toNat_ofNat, Nat.mod_eq_of_lt (by omega), Nat.mod_eq_of_lt (by omega)]
  have : x &&& (2 ^ 64 - 1 - y) ≤ x := Nat.and_le_left
  rw [IntKind.wrap_u64]
  unfold andN
  omega

theorem pnew_ok (n w : Nat) (hn : n ≤ 256) (hw0 : 0 < w) (hw : w ≤ 32) : Eqn Tryz.prog n_pack_New [.d (.int .i64 n), .d (.int .i64 w)] [] (.tup [.p 0 0, .d (.int .i64 0)]) [vecO 1 n w, vecB w (List.replicate n 0)] := by
  refine Eqn.gen [1, 0] r_pack_New (by simp) (by simp) (by rfl) (by decide) (by simp) (by simp [vecO, vecB]) ?_
  have hb : n * w ≤ 256 * 32 := Nat.mul_le_mul hn hw
  have g1 : ¬ (n : Int) < 0 := by omega
  have g2 : ¬ (256 : Int) < n := by omega
  have g3 : ¬ (w : Int) < 1 := by omega
  have g4 : ¬ (32 : Int) < w := by omega
  have e1 : IntKind.i64.wrap ((n : Int) * w) = ((n * w : Nat) : Int) := by rw [w64 (by rw [← Int.natCast_mul]; omega) (by rw [← Int.natCast_mul]; omega), Int.natCast_mul]
  simp only [c_pack_New, vecO, vecB, wordsP_zero]
  unfold nwP
  generalize n * w = Z at *
  have e2 : IntKind.i64.wrap ((Z : Int) + 64) = ((Z + 64 : Nat) : Int) := by rw [w64 (by omega) (by omega)]; omega
  have e3 : IntKind.i64.wrap ((Z + 64 : Nat) - 1 : Int) = ((Z + 63 : Nat) : Int) := by rw [w64 (by omega) (by omega)]; omega
  have e4 : IntKind.i64.wrap (((Z + 63 : Nat) : Int) / 64) = (((Z + 63) / 64 : Nat) : Int) := by rw [w64 (by omega) (by omega)]; rfl
  have hq : (Z + 63) / 64 ≤ 1000 := by omega
  generalize (Z + 63) / 64 = q at *
  generalize Z + 63 = Z1 at *
  generalize Z + 64 = Z2 at *
  have hrep : u64s (List.replicate q 0) = List.replicate q (V.d (.int .u64 0)) := by simp [u64s]
  have hren : ∀ θ, V.rens θ (u64s (List.replicate q 0)) = u64s (List.replicate q 0) := fun θ => u64s_ren θ _
  rw [hrep] at hren ⊢
  refine G1 (fs g1 (fs g2 (fs g3 g4))) ?_; try with_reducible exact tt
  refine AW.cond rfl (fun h => ?_) (fun h => ?_)
  · simp at h
  · refine G1 (fs e1 (fs e2 (fs e3 (fs e4 hren)))) ?_; try with_reducible exact tt

/-- a vector that stays as it is -/
def vecD (w : Nat) (xs : List Nat) : List D := [.sl (nwP xs.length w) ((wordsP w xs).map fun x : Nat => D.int .u64 x), .int .i64 xs.length, .int .i64 w]

theorem place_ok (w : Nat) (xs : List Nat) (i : Nat) (hi : i < xs.length) (hn : xs.length ≤ 256) (hw : w ≤ 32) : Eqn Tryz.prog n_pack_Vector_place [.ia (vecD w xs) 0, .d (.int .i64 i)] [] (.tup [.d (.int .i64 (i * w / 64 : Nat)), .d (.int .i64 (i * w % 64 : Nat))]) [] := by
  refine Eqn.pure r_pack_Vector_place Plain.ok ?_
  have hb : i * w ≤ 256 * 32 := Nat.mul_le_mul (by omega) hw
  have e1 : IntKind.i64.wrap ((i : Int) * w) = ((i * w : Nat) : Int) := by rw [w64 (by rw [← Int.natCast_mul]; omega) (by rw [← Int.natCast_mul]; omega), Int.natCast_mul]
  simp only [c_pack_Vector_place, vecD]
  generalize i * w = Z at *
  have e2 : IntKind.i64.wrap ((Z : Int) / 64) = ((Z / 64 : Nat) : Int) := by rw [w64 (by omega) (by omega)]; rfl
  have e3 : (Z : Int).tmod 64 = ((Z % 64 : Nat) : Int) := by rw [Int.tmod_eq_emod_of_nonneg (by omega)]; rfl
  generalize Z / 64 = q at *
  generalize Z % 64 = r at *
  refine G1 (fs e1 (fs e2 e3)) ?_; try with_reducible exact tt

theorem pmask_any (w : Nat) (N : Nat) (L : List D) (n : Int) (hw : w ≤ 32) : Eqn Tryz.prog n_pack_Vector_mask [.ia [.sl N L, .int .i64 n, .int .i64 w] 0] [] (.d (.int .u64 (2 ^ w - 1 : Nat))) [] := by
  refine Eqn.pure r_pack_Vector_mask Plain.ok ?_
  have h32 : 2 ^ w ≤ 2 ^ 32 := Nat.pow_le_pow_right (by omega) hw
  have h0 : 0 < 2 ^ w := Nat.two_pow_pos w
  have e0 : (2 : Int) ^ w = (2 ^ w : Nat) := by rw [Int.natCast_pow]; rfl
  have hw64 : w ≤ 64 := by omega
  simp only [c_pack_Vector_mask]
  generalize 2 ^ w = S at *
  have e3 : IntKind.u64.wrap (S : Int) = S := wu64 (by omega) (by omega)
  have e4 : IntKind.u64.wrap ((S : Int) - 1) = ((S - 1 : Nat) : Int) := by rw [wu64 (by omega) (by omega)]; omega
  refine G1 (fs e0 (fs e3 (fs e4 hw64))) ?_; try with_reducible exact tt

theorem pmask_ok (w : Nat) (xs : List Nat) (hw : w ≤ 32) : Eqn Tryz.prog n_pack_Vector_mask [.ia (vecD w xs) 0] [] (.d (.int .u64 (2 ^ w - 1 : Nat))) [] := pmask_any w _ _ _ hw

theorem pwidth_ok (w : Nat) (xs : List Nat) : Eqn Tryz.prog n_pack_Vector_Width [.ia (vecD w xs) 0] [] (.d (.int .i64 w)) [] := by
  refine Eqn.pure r_pack_Vector_Width Plain.ok ?_
  simp only [c_pack_Vector_Width, vecD]
  refine G0 ?_; try with_reducible exact tt

theorem pget_ok (w : Nat) (xs : List Nat) (i : Nat) (hi : i < xs.length) (hn : xs.length ≤ 256) (hw0 : 0 < w) (hw : w ≤ 32) (hs : smallP w xs) : Eqn Tryz.prog n_pack_Vector_Get [.ia (vecD w xs) 0, .d (.int .i64 i)] [] (.tup [.d (.int .u64 (xs.getD i 0 : Nat)), .d (.int .i64 0)]) [] := by
  refine Eqn.pure r_pack_Vector_Get Plain.ok ?_
  have hpl := place_ok w xs i hi hn hw
  have hma := pmask_ok w xs hw
  have g1 : ¬ (i : Int) < 0 := by omega
  have g2 : ¬ (xs.length : Int) ≤ i := by omega
  have e := Nat.div_add_mod (i * w) 64
  have hm64 : i * w % 64 < 64 := Nat.mod_lt _ (by omega)
  have hle : i * w + w ≤ xs.length * w := by rw [← Nat.succ_mul]; exact Nat.mul_le_mul_right w hi
  have hq : i * w / 64 < nwP xs.length w := by unfold nwP; omega
  have hq2 : 64 < i * w % 64 + w → i * w / 64 + 1 < nwP xs.length w := by intro h; unfold nwP; omega
  have hx1 := wordsP_lt (w := w) (xs := xs) (i * w / 64)
  have hx2 := wordsP_lt (w := w) (xs := xs) (i * w / 64 + 1)
  have hp1 := pget1 (i := i) hs hw hi
  have hp2 := pget2 (i := i) hs hw hi
  have hqb : i * w / 64 ≤ 1000 := by have : i * w ≤ 256 * 32 := Nat.mul_le_mul (by omega) hw; omega
  have hg1 : ∀ z : D, ((wordsP w xs).map fun x : Nat => D.int .u64 x)[i * w / 64]?.getD z = .int .u64 ((wordsP w xs).getD (i * w / 64) 0 : Nat) := fun z => by simp [hq]
  have hg2 : 64 < i * w % 64 + w → ∀ z : D, ((wordsP w xs).map fun x : Nat => D.int .u64 x)[i * w / 64 + 1]?.getD z = .int .u64 ((wordsP w xs).getD (i * w / 64 + 1) 0 : Nat) := fun h z => by simp [hq2 h]
  have h32 : 2 ^ w ≤ 2 ^ 32 := Nat.pow_le_pow_right (by omega) hw
  have hlen : ((wordsP w xs).map fun x : Nat => D.int .u64 x).length = nwP xs.length w := by simp
  simp only [c_pack_Vector_Get, vecD] at hpl hma ⊢
  generalize (wordsP w xs).getD (i * w / 64) 0 = x1 at *
  generalize (wordsP w xs).getD (i * w / 64 + 1) 0 = x2 at *
  generalize xs.getD i 0 = res at *
  generalize i * w / 64 = q at *
  generalize i * w % 64 = r at *
  generalize ((wordsP w xs).map fun x : Nat => D.int .u64 x) = L at *
  generalize nwP xs.length w = NW at *
  have e1 : (x1 : Int) / 2 ^ r = ((x1 / 2 ^ r : Nat) : Int) := by rw [Int.natCast_ediv, Int.natCast_pow]; rfl
  have e2 : IntKind.i64.wrap ((r : Int) + w) = ((r + w : Nat) : Int) := by rw [w64 (by omega) (by omega)]; omega
  have hx1r : x1 / 2 ^ r ≤ x1 := Nat.div_le_self _ _
  have hr64 : (r : Int) ≤ 64 := by omega
  by_cases hrw : r + w ≤ 64
  · replace hp1 := hp1 hrw
    have e3 := and_u64 (x1 / 2 ^ r) (2 ^ w - 1) (by omega) (by omega)
    rw [hp1] at e3
    generalize x1 / 2 ^ r = X1 at *
    generalize 2 ^ w - 1 = M at *
    have g3 : ¬ (64 : Int) < (r : Int) + w := by omega
    have g3' : ¬ (64 : Int) < (r + w : Nat) := by omega
    have g3'' : ¬ 64 < r + w := by omega
    generalize r + w = rw_ at *
    refine G1 (fs g1 g2) ?_; try with_reducible exact tt
    refine AW.cond rfl (fun h => ?_) (fun h => ?_)
    · simp [g1, g2] at h
    refine G0B ?_; try with_reducible exact tt
    refine CallS.pu (hpl) (R0 ?_); try with_reducible exact tt
    repeat (first | refine AW.seq ?_ | refine AW.block ?_ | (refine AW.reg mix ?_; simp -implicitDefEqProofs [hg1, e1, e2, hr64, g3, g3', g3'']; try simp (disch := omega) only [w64, wu64]) | (refine need.of (by first | omega | kernel_rfl) ?_) | (refine AW.fin ?_; try simp -implicitDefEqProofs [hg1, e1, e2, hr64, g3, g3', g3'']))
    (try (simp -implicitDefEqProofs [hg1, e1, e2, hr64, g3, g3', g3'']; try simp (disch := omega) only [w64, wu64]))
    repeat (first | refine AW.seq ?_ | refine AW.block ?_ | (refine AW.reg mix ?_; simp -implicitDefEqProofs [hg1, e1, e2, hr64, g3, g3', g3'']; try simp (disch := omega) only [w64, wu64]) | (refine need.of (by first | omega | kernel_rfl) ?_) | (refine AW.fin ?_; try simp -implicitDefEqProofs [hg1, e1, e2, hr64, g3, g3', g3'']))
    refine AW.cond rfl (fun h => ?_) (fun h => ?_)
    · simp [g3''] at h
    refine G0 ?_; try with_reducible exact tt
    refine CallS.pu (hma) (R1 e3 ?_); try with_reducible exact tt
  · have hr2 : 64 < r + w := by omega
    replace hp2 := hp2 hr2
    replace hg2 := hg2 hr2
    replace hq2 := hq2 hr2
    have e4 : IntKind.i64.wrap (64 - (r : Int)) = ((64 - r : Nat) : Int) := by rw [w64 (by omega) (by omega)]; omega
    have e5 : IntKind.u64.wrap ((x2 : Int) * 2 ^ (64 - r)) = ((x2 * 2 ^ (64 - r) % 2 ^ 64 : Nat) : Int) := by
      rw [IntKind.wrap_u64, Int.natCast_emod, Int.natCast_mul, Int.natCast_pow]; rfl
    have hx2m : x2 * 2 ^ (64 - r) % 2 ^ 64 < 2 ^ 64 := Nat.mod_lt _ (by omega)
    have e6 := or_u64 (x1 / 2 ^ r) (x2 * 2 ^ (64 - r) % 2 ^ 64) (by omega) (by omega)
    have hor := Nat.or_lt_two_pow (n := 64) (x := x1 / 2 ^ r) (y := x2 * 2 ^ (64 - r) % 2 ^ 64) (by omega) hx2m
    have e7 := and_u64 (x1 / 2 ^ r ||| x2 * 2 ^ (64 - r) % 2 ^ 64) (2 ^ w - 1) (by omega) (by omega)
    rw [hp2] at e7
    have hs64 : ((64 - r : Nat) : Int) ≤ 64 := by omega
    generalize x1 / 2 ^ r = X1 at *
    generalize x2 * 2 ^ (64 - r) % 2 ^ 64 = X2 at *
    generalize X1 ||| X2 = X3 at *
    generalize 2 ^ w - 1 = M at *
    generalize 64 - r = s at *
    have g3 : (64 : Int) < (r + w : Nat) := by omega
    have e8 : IntKind.i64.wrap ((q : Int) + 1) = ((q + 1 : Nat) : Int) := by rw [w64 (by omega) (by omega)]; omega
    generalize r + w = rw_ at *
    obtain ⟨q1, hq1⟩ : ∃ q1, q1 = q + 1 := ⟨_, rfl⟩
    rw [← hq1] at hg2 hq2 e8
    refine G1 (fs g1 g2) ?_; try with_reducible exact tt
    refine AW.cond rfl (fun h => ?_) (fun h => ?_)
    · simp [g1, g2] at h
    refine G0B ?_; try with_reducible exact tt
    refine CallS.pu (hpl) (R0 ?_); try with_reducible exact tt
    repeat (first | refine AW.seq ?_ | refine AW.block ?_ | (refine AW.reg mix ?_; simp -implicitDefEqProofs [hg1, e1, e2, hr64, g3, hr2]; try simp (disch := omega) only [w64, wu64]) | (refine need.of (by first | omega | kernel_rfl) ?_) | (refine AW.fin ?_; try simp -implicitDefEqProofs [hg1, e1, e2, hr64, g3, hr2]))
    (try (simp -implicitDefEqProofs [hg1, e1, e2, hr64, g3, hr2]; try simp (disch := omega) only [w64, wu64]))
    repeat (first | refine AW.seq ?_ | refine AW.block ?_ | (refine AW.reg mix ?_; simp -implicitDefEqProofs [hg1, e1, e2, hr64, g3, hr2]; try simp (disch := omega) only [w64, wu64]) | (refine need.of (by first | omega | kernel_rfl) ?_) | (refine AW.fin ?_; try simp -implicitDefEqProofs [hg1, e1, e2, hr64, g3, hr2]))
    refine AW.cond rfl (fun h => ?_) (fun h => ?_)
    · repeat (first | refine AW.seq ?_ | refine AW.block ?_ | (refine AW.reg mix ?_; simp -implicitDefEqProofs [hg2, e4, e5, e6, e8, hs64]; try simp (disch := omega) only [w64, wu64]) | (refine need.of (by first | omega | kernel_rfl) ?_) | (refine AW.fin ?_; try simp -implicitDefEqProofs [hg2, e4, e5, e6, e8, hs64]))
      (try (simp -implicitDefEqProofs [hg2, e4, e5, e6, e8, hs64]; try simp (disch := omega) only [w64, wu64]))
      repeat (first | refine AW.seq ?_ | refine AW.block ?_ | (refine AW.reg mix ?_; simp -implicitDefEqProofs [hg2, e4, e5, e6, e8, hs64]; try simp (disch := omega) only [w64, wu64]) | (refine need.of (by first | omega | kernel_rfl) ?_) | (refine AW.fin ?_; try simp -implicitDefEqProofs [hg2, e4, e5, e6, e8, hs64]))
      refine CallS.pu (hma) (R1 e7 ?_); try with_reducible exact tt
    · simp [hr2] at h
end
end Go.Proofs.YtijbgbpjionfjaaGreatDoor.Am
namespace Go.Proofs.YtijbgbpjionfjaaGreatDoor.Am
section
open Go.RowKit
set_option maxHeartbeats 1000000 in
theorem pset_ok (w : Nat) (xs : List Nat) (i v : Nat) (hi : i < xs.length) (hn : xs.length ≤ 256) (hw0 : 0 < w) (hw : w ≤ 32) (hv : v < 2 ^ w) : Eqn Tryz.prog n_pack_Vector_Set [.p 0 0, .d (.int .i64 i), .d (.int .u64 v)] [vecO 1 xs.length w, vecB w xs] (.d (.int .i64 0)) [vecO 1 xs.length w, vecB w (xs.set i v)] := by
  refine Eqn.gen [0, 1] r_pack_Vector_Set (by simp) (by simp) (by rfl) (by decide) (by simp) (by simp [vecO, vecB]) ?_
  have hpl := place_ok w xs i hi hn hw
  have hma := fun N L n => pmask_any w N L n hw
  have g1 : ¬ (i : Int) < 0 := by omega
  have g2 : ¬ (xs.length : Int) ≤ i := by omega
  have e := Nat.div_add_mod (i * w) 64
  have hm64 : i * w % 64 < 64 := Nat.mod_lt _ (by omega)
  have hle : i * w + w ≤ xs.length * w := by rw [← Nat.succ_mul]; exact Nat.mul_le_mul_right w hi
  have hq : i * w / 64 < (wordsP w xs).length := by rw [wordsP_len]; unfold nwP; omega
  have hq2 : 64 < i * w % 64 + w → i * w / 64 + 1 < (wordsP w xs).length := by intro h; rw [wordsP_len]; unfold nwP; omega
  have hx1 := wordsP_lt (w := w) (xs := xs) (i * w / 64)
  have hx2 := wordsP_lt (w := w) (xs := xs) (i * w / 64 + 1)
  have hp1 := pset1 (xs := xs) (i := i) hw hw0 hi hv
  have hp2 := pset2 (xs := xs) (i := i) hw hi hv
  have hqb : i * w / 64 ≤ 1000 := by have : i * w ≤ 256 * 32 := Nat.mul_le_mul (by omega) hw; omega
  have hg1 := u64s_get hq
  have hg2 := fun h => u64s_get (hq2 h)
  have hs1 := u64s_set (wordsP w xs) (i * w / 64) (setW1 w ((wordsP w xs).getD (i * w / 64) 0) v (i * w % 64))
  have hs2 := u64s_set ((wordsP w xs).set (i * w / 64) (setW1 w ((wordsP w xs).getD (i * w / 64) 0) v (i * w % 64))) (i * w / 64 + 1) (setW2 w ((wordsP w xs).getD (i * w / 64 + 1) 0) v (64 - i * w % 64))
  have hg3 : 64 < i * w % 64 + w → ((u64s (wordsP w xs)).set (i * w / 64) (V.d (.int .u64 (setW1 w ((wordsP w xs).getD (i * w / 64) 0) v (i * w % 64) : Nat))))[i * w / 64 + 1]? = some (.d (.int .u64 ((wordsP w xs).getD (i * w / 64 + 1) 0 : Nat))) := by
    intro h
    rw [List.getElem?_set, if_neg (by omega)]
    exact hg2 h
  have h32 : 2 ^ w ≤ 2 ^ 32 := Nat.pow_le_pow_right (by omega) hw
  have hlen := u64s_length (wordsP w xs)
  have hnle : ¬ ((2 ^ w - 1 : Nat) : Int) < v := by omega
  have hnle' : ¬ (2 ^ w - 1 < v) := by omega
  have hlx : (xs.set i v).length = xs.length := List.length_set
  rw [wordsP_len] at hlen hq hq2
  -- the first word
  have w1 : IntKind.u64.wrap (((2 ^ w - 1 : Nat) : Int) * 2 ^ (i * w % 64)) = (((2 ^ w - 1) * 2 ^ (i * w % 64) % 2 ^ 64 : Nat) : Int) := by
    rw [IntKind.wrap_u64, Int.natCast_emod, Int.natCast_mul, Int.natCast_pow]; rfl
  have w2 : IntKind.u64.wrap ((v : Int) * 2 ^ (i * w % 64)) = ((v * 2 ^ (i * w % 64) % 2 ^ 64 : Nat) : Int) := by
    rw [IntKind.wrap_u64, Int.natCast_emod, Int.natCast_mul, Int.natCast_pow]; rfl
  have lt1 : (2 ^ w - 1) * 2 ^ (i * w % 64) % 2 ^ 64 < 2 ^ 64 := Nat.mod_lt _ (by omega)
  have lt2 : v * 2 ^ (i * w % 64) % 2 ^ 64 < 2 ^ 64 := Nat.mod_lt _ (by omega)
  have w3 := andNot_u64 ((wordsP w xs).getD (i * w / 64) 0) ((2 ^ w - 1) * 2 ^ (i * w % 64) % 2 ^ 64) hx1 lt1
  have w4 := or_u64 (andN ((wordsP w xs).getD (i * w / 64) 0) ((2 ^ w - 1) * 2 ^ (i * w % 64) % 2 ^ 64)) (v * 2 ^ (i * w % 64) % 2 ^ 64) (andN_lt hx1) lt2
  have w5 : andN ((wordsP w xs).getD (i * w / 64) 0) ((2 ^ w - 1) * 2 ^ (i * w % 64) % 2 ^ 64) ||| v * 2 ^ (i * w % 64) % 2 ^ 64 = setW1 w ((wordsP w xs).getD (i * w / 64) 0) v (i * w % 64) := rfl
  rw [w5] at w4
  clear w5
  -- the second one
  have w6 : (((2 ^ w - 1 : Nat) : Int)) / 2 ^ (64 - i * w % 64) = (((2 ^ w - 1) / 2 ^ (64 - i * w % 64) : Nat) : Int) := by rw [Int.natCast_ediv, Int.natCast_pow]; rfl
  have w7 : (v : Int) / 2 ^ (64 - i * w % 64) = ((v / 2 ^ (64 - i * w % 64) : Nat) : Int) := by rw [Int.natCast_ediv, Int.natCast_pow]; rfl
  have lt3 : (2 ^ w - 1) / 2 ^ (64 - i * w % 64) < 2 ^ 64 := Nat.lt_of_le_of_lt (Nat.div_le_self _ _) (by omega)
  have lt4 : v / 2 ^ (64 - i * w % 64) < 2 ^ 64 := Nat.lt_of_le_of_lt (Nat.div_le_self _ _) (by omega)
  have w8 := andNot_u64 ((wordsP w xs).getD (i * w / 64 + 1) 0) ((2 ^ w - 1) / 2 ^ (64 - i * w % 64)) hx2 lt3
  have w9 := or_u64 (andN ((wordsP w xs).getD (i * w / 64 + 1) 0) ((2 ^ w - 1) / 2 ^ (64 - i * w % 64))) (v / 2 ^ (64 - i * w % 64)) (andN_lt hx2) lt4
  have w10 : andN ((wordsP w xs).getD (i * w / 64 + 1) 0) ((2 ^ w - 1) / 2 ^ (64 - i * w % 64)) ||| v / 2 ^ (64 - i * w % 64) = setW2 w ((wordsP w xs).getD (i * w / 64 + 1) 0) v (64 - i * w % 64) := rfl
  rw [w10] at w9
  clear w10 lt1 lt2 lt3 lt4
  simp only [c_pack_Vector_Set, vecO, vecB, hlx]
  have hL0 : u64s (wordsP w xs) = ((wordsP w xs).map fun x : Nat => D.int .u64 x).map V.d := by simp [u64s]
  have htk : ((wordsP w xs).map fun x : Nat => D.int .u64 x).take (nwP xs.length w) = (wordsP w xs).map fun x : Nat => D.int .u64 x := List.take_of_length_le (by simp)
  simp only [vecD] at hpl
  generalize hL : ((wordsP w xs).map fun x : Nat => D.int .u64 x) = L0 at *
  generalize hW : wordsP w (xs.set i v) = W2 at *
  generalize andN ((wordsP w xs).getD (i * w / 64) 0) ((2 ^ w - 1) * 2 ^ (i * w % 64) % 2 ^ 64) = A1 at *
  generalize andN ((wordsP w xs).getD (i * w / 64 + 1) 0) ((2 ^ w - 1) / 2 ^ (64 - i * w % 64)) = A2 at *
  generalize setW1 w ((wordsP w xs).getD (i * w / 64) 0) v (i * w % 64) = Y1 at *
  generalize setW2 w ((wordsP w xs).getD (i * w / 64 + 1) 0) v (64 - i * w % 64) = Y2 at *
  generalize (wordsP w xs).getD (i * w / 64) 0 = x1 at *
  generalize (wordsP w xs).getD (i * w / 64 + 1) 0 = x2 at *
  generalize (2 ^ w - 1) * 2 ^ (i * w % 64) % 2 ^ 64 = M1 at *
  generalize v * 2 ^ (i * w % 64) % 2 ^ 64 = v1 at *
  generalize (2 ^ w - 1) / 2 ^ (64 - i * w % 64) = M2 at *
  generalize v / 2 ^ (64 - i * w % 64) = v2 at *
  generalize 2 ^ w - 1 = M at *
  have hs64 : 64 - i * w % 64 ≤ 64 := by omega
  have e4 : IntKind.i64.wrap (64 - ((i * w % 64 : Nat) : Int)) = ((64 - i * w % 64 : Nat) : Int) := by rw [w64 (by omega) (by omega)]; omega
  have e8 : IntKind.i64.wrap (((i * w / 64 : Nat) : Int) + 1) = ((i * w / 64 + 1 : Nat) : Int) := by rw [w64 (by omega) (by omega)]; omega
  have e2 : IntKind.i64.wrap (((i * w % 64 : Nat) : Int) + w) = ((i * w % 64 + w : Nat) : Int) := by rw [w64 (by omega) (by omega)]; omega
  generalize 64 - i * w % 64 = s at *
  generalize i * w / 64 + 1 = q1 at *
  generalize i * w / 64 = q at *
  generalize i * w % 64 + w = rw_ at *
  generalize i * w % 64 = r at *
  generalize wordsP w xs = WS at *
  generalize nwP xs.length w = NW at *
  have hr64 : (r : Int) ≤ 64 := by omega
  have hs64' : (s : Int) ≤ 64 := by omega
  refine G1 (fs g1 g2) ?_; try with_reducible exact tt
  refine AW.cond rfl (fun h => ?_) (fun h => ?_)
  · simp [g1, g2] at h
  refine G0 ?_; try with_reducible exact tt
  refine CallS.ro [(1, 1, L0), (0, 1, [.sl NW L0, .int .i64 xs.length, .int .i64 w])] (hma NW L0 xs.length) (R1 (fs hnle hnle') ?_) (hok := by first | (simp [frzOK, frzH, hL0, htk]; done) | (simp [frzOK, frzH, hL0, htk]; rfl)); try with_reducible exact tt
  refine AW.cond rfl (fun h => ?_) (fun h => ?_)
  · simp [hnle'] at h
  refine G0 ?_; try with_reducible exact tt
  refine CallS.ro [(1, 1, L0), (0, 1, _)] (hpl) (R0 ?_) (hok := by first | (simp [frzOK, frzH, hL0, htk]; done) | (simp [frzOK, frzH, hL0, htk]; rfl)); try with_reducible exact tt
  refine CallS.ro [(1, 1, L0), (0, 1, [.sl NW L0, .int .i64 xs.length, .int .i64 w])] (hma NW L0 xs.length) (R0 ?_) (hok := by first | (simp [frzOK, frzH, hL0, htk]; done) | (simp [frzOK, frzH, hL0, htk]; rfl)); try with_reducible exact tt
  repeat (first | refine AW.seq ?_ | refine AW.block ?_ | (refine AW.reg mix ?_; simp -implicitDefEqProofs [hg1, w1, w2, w3, w4, hr64, e2]; try simp (disch := omega) only [w64, wu64]) | (refine need.of (by first | omega | kernel_rfl) ?_) | (refine AW.fin ?_; try simp -implicitDefEqProofs [hg1, w1, w2, w3, w4, hr64, e2]))
  (try (simp -implicitDefEqProofs [hg1, w1, w2, w3, w4, hr64, e2]; try simp (disch := omega) only [w64, wu64]))
  repeat (first | refine AW.seq ?_ | refine AW.block ?_ | (refine AW.reg mix ?_; simp -implicitDefEqProofs [hg1, w1, w2, w3, w4, hr64, e2]; try simp (disch := omega) only [w64, wu64]) | (refine need.of (by first | omega | kernel_rfl) ?_) | (refine AW.fin ?_; try simp -implicitDefEqProofs [hg1, w1, w2, w3, w4, hr64, e2]))
  by_cases hrw : rw_ ≤ 64
  · replace hp1 := hp1 hrw
    have g3 : ¬ 64 < rw_ := by omega
    have g3' : ¬ (64 : Int) < rw_ := by omega
    refine AW.cond rfl (fun h => ?_) (fun h => ?_)
    · exfalso; simp at h; omega
    refine G0 ?_; try with_reducible exact tt
    exact Subs.of (by rw [u64s_set, hp1])
  · have g3 : 64 < rw_ := by omega
    replace hp2 := hp2 g3
    replace hg3 := hg3 g3
    replace hq2 := hq2 g3
    obtain ⟨L1, hL1, hL1l⟩ : ∃ L1 : List D, (u64s WS).set q (V.d (.int .u64 Y1)) = L1.map V.d ∧ L1.length = NW := ⟨(WS.set q Y1).map fun x : Nat => D.int .u64 x, by rw [u64s_set]; simp [u64s, Function.comp_def], by simp; have := u64s_length WS; omega⟩
    have htk1 : L1.take NW = L1 := List.take_of_length_le (by omega)
    have hR : ((u64s WS).set q (V.d (.int .u64 Y1))).length = NW := by simp [hlen]
    refine AW.cond rfl (fun h => ?_) (fun h => ?_)
    · refine G1 (fs e4 e8) ?_; try with_reducible exact tt
      refine CallS.ro [(1, 1, L1), (0, 1, [.sl NW L1, .int .i64 xs.length, .int .i64 w])] (hma NW L1 xs.length) (R0 ?_) (hok := by first | (simp [frzOK, frzH, hL1, htk1]; done) | (simp [frzOK, frzH, hL1, htk1]; rfl)); try with_reducible exact tt
      repeat (first | refine AW.seq ?_ | refine AW.block ?_ | (refine AW.reg mix ?_; simp -implicitDefEqProofs [hg3, w6, w7, w8, w9, hs64']; try simp (disch := omega) only [w64, wu64]) | (refine need.of (by first | omega | kernel_rfl) ?_) | (refine AW.fin ?_; try simp -implicitDefEqProofs [hg3, w6, w7, w8, w9, hs64']))
      (try (simp -implicitDefEqProofs [hg3, w6, w7, w8, w9, hs64']; try simp (disch := omega) only [w64, wu64]))
      repeat (first | refine AW.seq ?_ | refine AW.block ?_ | (refine AW.reg mix ?_; simp -implicitDefEqProofs [hg3, w6, w7, w8, w9, hs64']; try simp (disch := omega) only [w64, wu64]) | (refine need.of (by first | omega | kernel_rfl) ?_) | (refine AW.fin ?_; try simp -implicitDefEqProofs [hg3, w6, w7, w8, w9, hs64']))
      exact Subs.of (by rw [u64s_set, u64s_set, hp2])
    · exfalso; simp at h; omega
end
end Go.Proofs.YtijbgbpjionfjaaGreatDoor.Am
namespace Go.Proofs.YtijbgbpjionfjaaGreatDoor.Am
section
open Go.RowKit
theorem bitsW_numB : ∀ (n : Nat) (bs : List Bool), bs.length = n → bitsW (numB bs 0) n = bs
  | 0, bs, h => by rw [List.eq_nil_of_length_eq_zero h]; rfl
  | n + 1, bs, h => by
    rcases List.eq_nil_or_concat bs with rfl | ⟨l, b, rfl⟩
    · simp at h
    · simp at h
      rw [List.concat_eq_append, numB_append, show numB [b] (numB l 0) = 2 * numB l 0 + b2n b from rfl, bitsW_succ]
      have hb : (2 * numB l 0 + b2n b) / 2 = numB l 0 := by have := b2n_le b; omega
      have hb2 : decide ((2 * numB l 0 + b2n b) % 2 = 1) = b := by cases b <;> simp [b2n] <;> omega
      rw [hb, hb2, bitsW_numB n l h]

/-- a register as a number -/
def encN (k a b y t : Nat) (f : Bool) : Nat := numB (encR k a b y t f) 0
def wdR (k a b : Nat) : Nat := kwR k a b + twR k b + 1
theorem encN_lt (k a b y t : Nat) (f : Bool) : encN k a b y t f < 2 ^ wdR k a b := by have := numB_lt (encR k a b y t f); rw [encR_len] at this; exact this
theorem encN_bits (k a b y t : Nat) (f : Bool) : bitsW (encN k a b y t f) (wdR k a b) = encR k a b y t f := bitsW_numB _ _ (encR_len k a b y t f)
theorem wdR_le {k a b : Nat} (h : GoodR k a b) : 0 < wdR k a b ∧ wdR k a b ≤ 16 := by
  have := (kwR_pos h); have := twR_le h; unfold wdR; omega

theorem bitsOf_prefix (bs : List Bool) (a n : Nat) (h : a + n ≤ bs.length) : ((bitsOf (bytesOf bs)).drop a).take n = (bs.drop a).take n := by
  have e := bitsOf_bytesOf bs
  conv => rhs; rw [← e]
  rw [List.drop_take, List.take_take, Nat.min_eq_left (by omega)]
theorem readR_enc {k a b y t : Nat} {f : Bool} (hg : GoodR k a b) (h : WellR k a b y t f) : readR (bytesOf (encR k a b y t f)) k a b 0 = ((y, t, f), 0, wdR k a b) := by
  have hl := encR_len k a b y t f
  have hf := well_fits hg h
  have h1 : numAt (bytesOf (encR k a b y t f)) 0 (kwR k a b) = y := by
    unfold numAt
    rw [bitsOf_prefix _ _ _ (by omega), List.drop_zero]
    unfold encR
    rw [List.append_assoc, List.take_append_of_le_length (by simp), List.take_of_length_le (by simp), numB_bitsW, Nat.mod_eq_of_lt hf.1]
  have h2 : numAt (bytesOf (encR k a b y t f)) (0 + kwR k a b) (twR k b) = t := by
    unfold numAt
    rw [bitsOf_prefix _ _ _ (by omega), Nat.zero_add]
    unfold encR
    rw [List.append_assoc, List.drop_append_of_le_length (by simp), List.drop_of_length_le (by simp), List.nil_append, List.take_append_of_le_length (by simp), List.take_of_length_le (by simp), numB_bitsW, Nat.mod_eq_of_lt hf.2]
  have h3 : (bitsOf (bytesOf (encR k a b y t f))).getD (0 + kwR k a b + twR k b) false = f := by
    have e := bitsOf_prefix (encR k a b y t f) (kwR k a b + twR k b) 1 (by omega)
    have : ((encR k a b y t f).drop (kwR k a b + twR k b)).take 1 = [f] := by
      unfold encR
      rw [List.drop_append_of_le_length (by simp), List.drop_of_length_le (by simp)]; rfl
    rw [this] at e
    rw [Nat.zero_add, List.getD_eq_getElem?_getD]
    have e2 := congrArg (fun l => l[0]?) e
    simp only [List.getElem?_take, List.getElem?_drop] at e2
    simp at e2
    rw [e2]; rfl
  unfold readR
  rw [h1, h2, h3, if_neg (by rw [bytesOf_len, hl]; omega), if_pos (wellRB_iff.2 h)]
  simp [wdR]

/-- states -/
abbrev ST := Nat × Nat × Bool
def encs (k a b : Nat) (l : List ST) : List Nat := l.map fun s => encN k a b s.1 s.2.1 s.2.2
def wells (k a b : Nat) (l : List ST) : Prop := ∀ s ∈ l, WellR k a b s.1 s.2.1 s.2.2
@[simp] theorem encs_len (k a b : Nat) (l : List ST) : (encs k a b l).length = l.length := by simp [encs]
theorem encs_small (k a b : Nat) (l : List ST) : smallP (wdR k a b) (encs k a b l) := by
  intro x hx
  obtain ⟨s, -, rfl⟩ := List.mem_map.1 hx
  exact encN_lt _ _ _ _ _ _
theorem encs_get {k a b : Nat} {l : List ST} {i : Nat} (h : i < l.length) : (encs k a b l).getD i 0 = encN k a b (l.getD i (0, 0, false)).1 (l.getD i (0, 0, false)).2.1 (l.getD i (0, 0, false)).2.2 := by simp [encs, h]
theorem encs_set (k a b : Nat) (l : List ST) (i : Nat) (s : ST) : (encs k a b l).set i (encN k a b s.1 s.2.1 s.2.2) = encs k a b (l.set i s) := by simp [encs, List.map_set]
theorem wells_get {k a b : Nat} {l : List ST} (h : wells k a b l) {i : Nat} (hi : i < l.length) : WellR k a b (l.getD i (0, 0, false)).1 (l.getD i (0, 0, false)).2.1 (l.getD i (0, 0, false)).2.2 := by
  rw [List.getD_eq_getElem?_getD, List.getElem?_eq_getElem hi]; exact h _ (List.getElem_mem hi)
/-- an array's variable -/
def arrO (v : Nat) (k a b : Nat) : Ob := ⟨166, [.p v 0, .d (.int .i64 k), .d (.int .i64 a), .d (.int .i64 b)]⟩
def arrV (m : Nat) (k a b : Nat) (l : List ST) : Ob := vecO m l.length (wdR k a b)
def arrB (k a b : Nat) (l : List ST) : Ob := vecB (wdR k a b) (encs k a b l)

theorem smallB_bytes (bs : List Bool) : smallB (bytesOf bs) := by
  intro x hx
  obtain ⟨i, -, rfl⟩ := List.mem_map.1 hx
  exact byteAt_lt _ _

set_option maxHeartbeats 1000000 in
theorem cget_ok {k a b : Nat} (l : List ST) (i : Nat) (h : GoodR k a b) (hw : wells k a b l) (hi : i < l.length) (hn : l.length ≤ 256) :
    Eqn Tryz.prog n_carray_Array_Get [.p 0 0, .d (.int .i64 i)] [arrO 1 k a b, arrV 2 k a b l, arrB k a b l] (.tup [.d (tsD (l.getD i (0, 0, false)).1 (l.getD i (0, 0, false)).2.1 (l.getD i (0, 0, false)).2.2), .d (.int .i64 0)]) [arrO 1 k a b, arrV 2 k a b l, arrB k a b l] := by
  refine Eqn.gen [0, 1, 2] r_carray_Array_Get (by simp) (by simp) (by rfl) (by decide) (by simp [tsD]) (by simp [arrO, arrV, arrB, vecO, vecB]) ?_
  obtain ⟨w0, w16⟩ := wdR_le h
  have hg := pget_ok (wdR k a b) (encs k a b l) i (by simpa using hi) (by simpa using hn) w0 (by omega) (encs_small k a b l)
  have hwd := pwidth_ok (wdR k a b) (encs k a b l)
  rw [encs_get hi] at hg
  have hwi := wells_get hw hi
  generalize l.getD i (0, 0, false) = s at *
  obtain ⟨y, t, f⟩ := s
  simp only at hg hwi ⊢
  have hlt := encN_lt k a b y t f
  have h16 : 2 ^ wdR k a b ≤ 2 ^ 16 := Nat.pow_le_pow_right (by omega) w16
  have h3 := wnum0_ok (encN k a b y t f) (wdR k a b) w0 (by omega) hlt (by omega)
  rw [encN_bits] at h3
  have hne : encR k a b y t f ≠ [] := by simp [encR]
  have hel := encR_len k a b y t f
  have h4 := wbytes_ok (encR k a b y t f) hne (by rw [hel]; unfold wdR at w16; omega)
  have h5 := bread_ok (bytesOf (encR k a b y t f)) (by rw [bytesOf_len, hel]; unfold wdR at w16; omega)
  have h6 := rread_ok (bytesOf (encR k a b y t f)) (k := k) (a := a) (b := b) 0 h (smallB_bytes _) (by rw [bytesOf_len, hel]; unfold wdR at w16; omega) (Nat.zero_le _) _ rfl
  rw [readR_enc h hwi] at h6
  have hwlen : ((wordsP (wdR k a b) (encs k a b l)).map fun x : Nat => D.int .u64 x).length = nwP l.length (wdR k a b) := by simp
  have htk : ((wordsP (wdR k a b) (encs k a b l)).map fun x : Nat => D.int .u64 x).take (nwP l.length (wdR k a b)) = (wordsP (wdR k a b) (encs k a b l)).map fun x : Nat => D.int .u64 x := List.take_of_length_le (by simp)
  have hL0 : u64s (wordsP (wdR k a b) (encs k a b l)) = ((wordsP (wdR k a b) (encs k a b l)).map fun x : Nat => D.int .u64 x).map V.d := by simp [u64s]
  have hB0 : u8s (bytesOf (encR k a b y t f)) = ((bytesOf (encR k a b y t f)).map fun x : Nat => D.int .u8 x).map V.d := by simp [u8s]
  have hBt : ((bytesOf (encR k a b y t f)).map fun x : Nat => D.int .u8 x).take (bytesOf (encR k a b y t f)).length = (bytesOf (encR k a b y t f)).map fun x : Nat => D.int .u8 x := List.take_of_length_le (by simp)
  have hBl : (bytesOf (encR k a b y t f)).length = ((encR k a b y t f).length + 7) / 8 := by simp
  simp only [c_carray_Array_Get, arrO, arrV, arrB, vecO, vecB, vecD, encs_len, tsD, parD, rdO, BY, wrO, wrB] at hg hwd h3 h4 h5 h6 ⊢
  generalize encs k a b l = es at *
  generalize wordsP (wdR k a b) es = WS at *
  generalize encR k a b y t f = bs at *
  generalize bytesOf bs = bytes at *
  rw [← hBl] at h3 h4
  generalize hLL : (WS.map fun x : Nat => D.int .u64 x) = L0 at *
  generalize hBB : (bytes.map fun x : Nat => D.int .u8 x) = LB at *
  generalize encN k a b y t f = N at *
  generalize wdR k a b = w at *
  generalize nwP l.length w = NW at *
  refine G0 ?_; try with_reducible exact tt
  refine CallS.ro [(2, 1, L0), (1, 1, [.sl NW L0, .int .i64 l.length, .int .i64 w])] (hg) (R0 ?_) (hok := by first | (simp [frzOK, frzH, hL0, htk]; done) | (simp [frzOK, frzH, hL0, htk]; rfl)); try with_reducible exact tt
  refine AW.cond rfl (fun h => ?_) (fun h => ?_)
  · simp at h
  refine G0 ?_; try with_reducible exact tt
  refine CallS.ro [(2, 1, L0), (1, 1, [.sl NW L0, .int .i64 l.length, .int .i64 w])] (hwd) (R0 ?_) (hok := by first | (simp [frzOK, frzH, hL0, htk]; done) | (simp [frzOK, frzH, hL0, htk]; rfl)); try with_reducible exact tt
  refine CallS.g [4] (h3) (R0 ?_); try with_reducible exact tt
  refine CallS.g [4, 5] (h4) (R0 ?_); try with_reducible exact tt
  rw [hB0]
  have h5' : Eqn Tryz.prog n_bits_Read [.d (.sl bytes.length (List.take (bytes.length * 1) LB))] [] (.p 0 0) [⟨174, [.d (.sl bytes.length LB), .d (.int .i64 0)]⟩] := by rw [Nat.mul_one, hBt]; simpa using h5
  refine CallS.gf 6 1 ⟨5, LB.map V.d⟩ LB [] (h5') (R0 ?_); try with_reducible exact tt
  simp at h6
  refine CallS.g [7] (h6) (R0 ?_); try with_reducible exact tt
end
end Go.Proofs.YtijbgbpjionfjaaGreatDoor.Am
namespace Go.Proofs.YtijbgbpjionfjaaGreatDoor.Am
section
open Go.RowKit
theorem zeroS {k a b : Nat} (h : GoodR k a b) : WellR k a b 0 0 false := by
  rcases h with ⟨rfl, h⟩ | ⟨hk, h⟩
  · exact .inl ⟨rfl, Nat.zero_le _, Nat.zero_le _, by simp⟩
  · exact .inr ⟨hk, rfl, Nat.zero_le _, by simp⟩
theorem encN_zero (k a b : Nat) : encN k a b 0 0 false = 0 := by
  have h : ∀ w, bitsW 0 w = List.replicate w false := by
    intro w
    apply List.ext_getElem?
    intro i
    simp only [bitsW, List.getElem?_map, List.getElem?_replicate]
    by_cases h : i < w
    · rw [List.getElem?_range h, if_pos h]; simp
    · rw [List.getElem?_eq_none (by simp; omega), if_neg h]; rfl
  have hz : ∀ w n, numB (List.replicate w false) n = n * 2 ^ w := by
    intro w
    induction w with
    | zero => intro n; simp [numB]
    | succ w ih => intro n; rw [List.replicate_succ, numB, ih, Nat.pow_succ]; simp [b2n]; rw [Nat.mul_comm 2 n, Nat.mul_assoc, Nat.mul_comm 2]
  unfold encN encR
  rw [h, h, show [false] = List.replicate 1 false from rfl, numB_append, numB_append, hz, hz, hz]
  simp

set_option maxHeartbeats 1000000 in
theorem cset_ok {k a b : Nat} (l : List ST) (i : Nat) (y t : Nat) (f : Bool) (h : GoodR k a b) (hw : wells k a b l) (hi : i < l.length) (hn : l.length ≤ 256) (hs : WellR k a b y t f) :
    Eqn Tryz.prog n_carray_Array_Set [.p 0 0, .d (.int .i64 i), .d (tsD y t f)] [arrO 1 k a b, arrV 2 k a b l, arrB k a b l] (.d (.int .i64 0)) [arrO 1 k a b, arrV 2 k a b l, arrB k a b (l.set i (y, t, f))] := by
  refine Eqn.gen [0, 1, 2] r_carray_Array_Set (by simp) (by simp) (by rfl) (by decide) (by simp) (by simp [arrO, arrV, arrB, vecO, vecB]) ?_
  obtain ⟨w0, w16⟩ := wdR_le h
  have hg := pget_ok (wdR k a b) (encs k a b l) i (by simpa using hi) (by simpa using hn) w0 (by omega) (encs_small k a b l)
  generalize (encs k a b l).getD i 0 = was at hg
  have hwd := pwidth_ok (wdR k a b) (encs k a b l)
  have hlt := encN_lt k a b y t f
  have hps := pset_ok (wdR k a b) (encs k a b l) i (encN k a b y t f) (by simpa using hi) (by simpa using hn) w0 (by omega) hlt
  have hset := encs_set k a b l i (y, t, f)
  simp only at hset
  rw [hset] at hps
  have h16 : 2 ^ wdR k a b ≤ 2 ^ 16 := Nat.pow_le_pow_right (by omega) w16
  have h3 := rwrite0_ok h hs
  have hne : encR k a b y t f ≠ [] := by simp [encR]
  have hel := encR_len k a b y t f
  have h4 := wbytes_ok (encR k a b y t f) hne (by rw [hel]; unfold wdR at w16; omega)
  have h5 := bread_ok (bytesOf (encR k a b y t f)) (by rw [bytesOf_len, hel]; unfold wdR at w16; omega)
  have h6 := rnum_ok (bytesOf (encR k a b y t f)) 0 (wdR k a b) (smallB_bytes _) (by omega) (by rw [bytesOf_len, hel]; unfold wdR at w16; omega) (by rw [bytesOf_len, hel]; unfold wdR; omega)
  have h7 : numAt (bytesOf (encR k a b y t f)) 0 (wdR k a b) = encN k a b y t f := by
    unfold numAt encN
    rw [bitsOf_prefix _ _ _ (by rw [hel]; unfold wdR; omega), List.drop_zero, List.take_of_length_le (by rw [hel]; unfold wdR; omega)]
  rw [h7] at h6
  have htk : ((wordsP (wdR k a b) (encs k a b l)).map fun x : Nat => D.int .u64 x).take (nwP l.length (wdR k a b)) = (wordsP (wdR k a b) (encs k a b l)).map fun x : Nat => D.int .u64 x := List.take_of_length_le (by simp)
  have hL0 : u64s (wordsP (wdR k a b) (encs k a b l)) = ((wordsP (wdR k a b) (encs k a b l)).map fun x : Nat => D.int .u64 x).map V.d := by simp [u64s]
  have hB0 : u8s (bytesOf (encR k a b y t f)) = ((bytesOf (encR k a b y t f)).map fun x : Nat => D.int .u8 x).map V.d := by simp [u8s]
  have hBt : ((bytesOf (encR k a b y t f)).map fun x : Nat => D.int .u8 x).take (bytesOf (encR k a b y t f)).length = (bytesOf (encR k a b y t f)).map fun x : Nat => D.int .u8 x := List.take_of_length_le (by simp)
  have hBl : (bytesOf (encR k a b y t f)).length = ((encR k a b y t f).length + 7) / 8 := by simp
  simp only [c_carray_Array_Set, arrO, arrV, arrB, vecO, vecB, vecD, encs_len, List.length_set, tsD, parD, rdO, BY, wrO, wrB] at hg hwd hps h3 h4 h5 h6 ⊢
  generalize encs k a b (l.set i (y, t, f)) = es' at *
  generalize hWS' : wordsP (wdR k a b) es' = WS' at *
  generalize encs k a b l = es at *
  generalize hWS : wordsP (wdR k a b) es = WS at *
  generalize encR k a b y t f = bs at *
  generalize bytesOf bs = bytes at *
  rw [← hBl] at h3 h4
  generalize hLL : (WS.map fun x : Nat => D.int .u64 x) = L0 at *
  generalize hBB : (bytes.map fun x : Nat => D.int .u8 x) = LB at *
  generalize encN k a b y t f = N at *
  generalize wdR k a b = w at *
  generalize nwP l.length w = NW at *
  have h5' : Eqn Tryz.prog n_bits_Read [.d (.sl bytes.length (List.take (bytes.length * 1) LB))] [] (.p 0 0) [⟨174, [.d (.sl bytes.length LB), .d (.int .i64 0)]⟩] := by rw [Nat.mul_one, hBt]; simpa using h5
  simp at h6
  refine G0 ?_; try with_reducible exact tt
  refine CallS.ro [(2, 1, L0), (1, 1, [.sl NW L0, .int .i64 l.length, .int .i64 w])] (hg) (R0 ?_) (hok := by first | (simp [frzOK, frzH, hL0, htk]; done) | (simp [frzOK, frzH, hL0, htk]; rfl)); try with_reducible exact tt
  refine AW.cond rfl (fun h => ?_) (fun h => ?_)
  · simp at h
  refine G0 ?_; try with_reducible exact tt
  refine CallS.g [4] (h3) (R0 ?_); try with_reducible exact tt
  refine AW.cond rfl (fun h => ?_) (fun h => ?_)
  · simp at h
  refine G0 ?_; try with_reducible exact tt
  refine CallS.g [4, 5] (h4) (R0 ?_); try with_reducible exact tt
  rw [hB0]
  refine CallS.gf 6 1 ⟨5, LB.map V.d⟩ LB [] (h5') (R0 ?_); try with_reducible exact tt
  refine CallS.ro [(2, 1, L0), (1, 1, [.sl NW L0, .int .i64 l.length, .int .i64 w])] (hwd) (R0 ?_) (hok := by first | (simp [frzOK, frzH, hL0, htk]; done) | (simp [frzOK, frzH, hL0, htk]; rfl)); try with_reducible exact tt
  refine CallS.g [7] (h6) (R0 ?_); try with_reducible exact tt
  refine CallS.g [1, 2] (hps) (R0 ?_); try with_reducible exact tt
end
end Go.Proofs.YtijbgbpjionfjaaGreatDoor.Am
namespace Go.Proofs.YtijbgbpjionfjaaGreatDoor.Am
section
open Go.RowKit
theorem wells_rep {k a b : Nat} (h : GoodR k a b) (n : Nat) : wells k a b (List.replicate n (0, 0, false)) := by
  intro s hs
  rw [List.eq_of_mem_replicate hs]; exact zeroS h
theorem cnew_ok {k a b : Nat} (n : Nat) (h : GoodR k a b) (h1 : 1 ≤ n) (hn : n ≤ 256) :
    Eqn Tryz.prog n_carray_New [.d (parD k a b), .d (.int .i64 n)] [] (.tup [.p 0 0, .d (.int .i64 0)]) [arrO 1 k a b, arrV 2 k a b (List.replicate n (0, 0, false)), arrB k a b (List.replicate n (0, 0, false))] := by
  refine Eqn.gen [3, 1, 2] r_carray_New (by simp) (by simp) (by rfl) (by decide) (by simp) (by simp [arrO, arrV, arrB, vecO, vecB]) ?_
  obtain ⟨w0, w16⟩ := wdR_le h
  have hc := rcheck_ok h
  have hb := rbits_ok h
  have hp := pnew_ok n (wdR k a b) hn w0 (by omega)
  have he : encs k a b (List.replicate n (0, 0, false)) = List.replicate n 0 := by simp [encs, encN_zero]
  have g1 : ¬ (n : Int) < 1 := by omega
  have g2 : ¬ (256 : Int) < n := by omega
  rw [show kwR k a b + twR k b + 1 = wdR k a b from rfl] at hb
  simp only [c_carray_New, arrO, arrV, arrB, vecO, vecB, parD, he, List.length_replicate] at hc hb hp ⊢
  generalize wdR k a b = w at *
  generalize wordsP w (List.replicate n 0) = WS at *
  generalize nwP n w = NW at *
  refine G0 ?_; try with_reducible exact tt
  refine CallS.pu (hc) (R1 (fs g1 g2) ?_); try with_reducible exact tt
  refine AW.cond rfl (fun h => ?_) (fun h => ?_)
  · simp at h
  refine G0 ?_; try with_reducible exact tt
  refine CallS.pu (hb) (R0 ?_); try with_reducible exact tt
  refine CallS.g [] (hp) (R0 ?_); try with_reducible exact tt
  refine AW.cond rfl (fun h => ?_) (fun h => ?_)
  · simp at h
  refine G0 ?_; try with_reducible exact tt

theorem cadd_int {k a b : Nat} (cs : List Bool) (l : List ST) (i n p : Nat) (m : Int) (hmx : max 0 m = (n : Int)) (d : Bool) (h : GoodR k a b) (hw : wells k a b l) (hi : i < l.length) (hn : l.length ≤ 256) (hnn : m ≤ 1048576) (hp : p ≤ cs.length) (hc : cs.length ≤ 4000000) (R : TR) (hR : R = addRM cs k a b n (l.getD i (0, 0, false)).1 (l.getD i (0, 0, false)).2.1 (l.getD i (0, 0, false)).2.2 p d) :
    Eqn Tryz.prog n_carray_Array_Add [.p 0 0, .p 3 0, .d (.int .i64 i), .d (.int .i64 m)] [arrO 1 k a b, arrV 2 k a b l, arrB k a b l, tapeO cs p d] (.d (.int .i64 R.e)) [arrO 1 k a b, arrV 2 k a b l, arrB k a b (if R.e = 0 then l.set i (R.y, R.t, R.f) else l), tapeO cs R.p R.d] := by
  refine Eqn.gen [0, 1, 2, 3] r_carray_Array_Add (by simp) (by simp) (by rfl) (by decide) (by simp) (by simp [arrO, arrV, arrB, vecO, vecB, tapeO]) ?_
  have hg := cget_ok l i h hw hi hn
  have hwi := wells_get hw hi
  generalize l.getD i (0, 0, false) = s at *
  obtain ⟨y, t, f⟩ := s
  simp only at hR hg hwi
  have ha := radd_int cs k a b y t f n m hmx p d h hwi hnn hp hc R hR
  have hww := addRM_well (cs := cs) (n := n) (y := y) (t := t) (f := f) (p := p) (d := d) h hwi hp hc
  rw [← hR] at hww
  clear hR
  obtain ⟨e, ry, rt, rf, rp, rd⟩ := R
  simp only at hww ⊢
  by_cases he : e = 0
  · subst he
    have hs := cset_ok l i ry rt rf h hw hi hn (hww.2 rfl)
    simp only [c_carray_Array_Add, arrO, arrV, arrB, vecO, vecB, parD, tsD, stR, if_true, List.length_set, encs_len] at hg ha hs ⊢
    generalize wordsP (wdR k a b) (encs k a b (l.set i (ry, rt, rf))) = WS' at *
    generalize wordsP (wdR k a b) (encs k a b l) = WS at *
    generalize nwP l.length (wdR k a b) = NW at *
    refine G0B ?_; try with_reducible exact tt
    refine CallS.g [0, 1, 2] (hg) (R0B ?_); try with_reducible exact tt
    refine AW.cond rfl (fun h => ?_) (fun h => ?_)
    · simp at h
    refine G0B ?_; try with_reducible exact tt
    refine CallS.o1 3 (ha) (R0B ?_); try with_reducible exact tt
    refine AW.cond rfl (fun h => ?_) (fun h => ?_)
    · simp at h
    refine G0B ?_; try with_reducible exact tt
    refine CallS.g [0, 1, 2] (hs) (R0B ?_); try with_reducible exact tt
  · simp only [c_carray_Array_Add, arrO, arrV, arrB, vecO, vecB, parD, tsD, stR, if_neg he, encs_len] at hg ha ⊢
    generalize wordsP (wdR k a b) (encs k a b l) = WS at *
    generalize nwP l.length (wdR k a b) = NW at *
    refine G0B ?_; try with_reducible exact tt
    refine CallS.g [0, 1, 2] (hg) (R0B ?_); try with_reducible exact tt
    refine AW.cond rfl (fun h => ?_) (fun h => ?_)
    · simp at h
    refine G0B ?_; try with_reducible exact tt
    refine CallS.o1 3 (ha) (R0B ?_); try with_reducible exact tt
    refine AW.cond rfl (fun h => ?_) (fun h => ?_)
    · refine G0B ?_; try with_reducible exact tt
    · simp [he] at h
theorem cadd_ok {k a b : Nat} (cs : List Bool) (l : List ST) (i n p : Nat) (d : Bool) (h : GoodR k a b) (hw : wells k a b l) (hi : i < l.length) (hn : l.length ≤ 256) (hnn : n ≤ 1048576) (hp : p ≤ cs.length) (hc : cs.length ≤ 4000000) (R : TR) (hR : R = addRM cs k a b n (l.getD i (0, 0, false)).1 (l.getD i (0, 0, false)).2.1 (l.getD i (0, 0, false)).2.2 p d) :
    Eqn Tryz.prog n_carray_Array_Add [.p 0 0, .p 3 0, .d (.int .i64 i), .d (.int .i64 n)] [arrO 1 k a b, arrV 2 k a b l, arrB k a b l, tapeO cs p d] (.d (.int .i64 R.e)) [arrO 1 k a b, arrV 2 k a b l, arrB k a b (if R.e = 0 then l.set i (R.y, R.t, R.f) else l), tapeO cs R.p R.d] :=
  cadd_int cs l i n p n (by omega) d h hw hi hn (by omega) hp hc R hR
end
end Go.Proofs.YtijbgbpjionfjaaGreatDoor.Am
namespace Go.Proofs.YtijbgbpjionfjaaGreatDoor.Am
section
open Go.RowKit
theorem nw_pos {k a b n : Nat} (hg : GoodR k a b) (h1 : 1 ≤ n) (hn : n ≤ 256) : 0 < nwP n (wdR k a b) ∧ nwP n (wdR k a b) ≤ 4000000 := by
  obtain ⟨w0, w16⟩ := wdR_le hg
  unfold nwP
  have h1' : n * 1 ≤ n * wdR k a b := Nat.mul_le_mul_left _ w0
  have h2' : n * wdR k a b ≤ 256 * 16 := Nat.mul_le_mul hn w16
  omega

theorem frzs_map_d (n s : Nat) (ds : List D) (l : List D) : V.frzs n s ds (l.map V.d) = l.map V.d := by
  rw [frzs_map]; simp [V.frz]
end
end Go.Proofs.YtijbgbpjionfjaaGreatDoor.Am
namespace Go.Proofs.YtijbgbpjionfjaaGreatDoor.Am
section
open Go.RowKit
section
variable {P : Program} {L : Nat} {Q : Exit → List V → List (Option Ob) → Prop} {T : List V} {H : List (Option Ob)} {x : C}
/-- a loop, gone through round by round -/
def AWu (P : Program) (L : Nat) (x : C) (Q : Exit → List V → List (Option Ob) → Prop) : Nat → List V → List (Option Ob) → Prop
  | 0, _, _ => False
  | n + 1, T, H => AW P L x (thenQ (AWu P L x Q n) Q) T H
theorem AW.rounds (n : Nat) (h : AWu P L x Q n T H) : AW P L (.loop x) Q T H := by
  refine AW.loop (fun k T H => AWu P L x Q k T H) n h fun k T H hk => ?_
  cases k with
  | zero => exact hk.elim
  | succ k =>
    refine AW.mono hk fun e T' H' hq => ?_
    cases e <;> first | exact ⟨k, Nat.lt_succ_self k, hq⟩ | exact hq
theorem AWu.next {n : Nat} (h : AW P L x (thenQ (AWu P L x Q n) Q) T H) : AWu P L x Q (n + 1) T H := h
end
/-- a contract, of arguments of which more is known -/
theorem EqnD.sub {P : Program} {f : FuncId} {args args' : List V} {Hs Hs' : List Ob} {X : V} {dead : List Nat} (E : EqnD P f args' Hs X Hs' dead) (h : Subs args args') : EqnD P f args Hs X Hs' dead :=
  ⟨E.len, E.old, E.lowx, E.lowo, fun m vs hb hv => E.run m vs hb (h m vs hv)⟩
end
end Go.Proofs.YtijbgbpjionfjaaGreatDoor.Am
namespace Go.Proofs.YtijbgbpjionfjaaGreatDoor.Am
section
open Go.RowKit
attribute [simp] frzs_map_d rens_map_d lowl_map_d
@[simp] theorem rens_app (θ : Nat → Nat) : ∀ l k : List V, V.rens θ (l ++ k) = V.rens θ l ++ V.rens θ k
  | [], k => by simp [V.rens]
  | x :: l, k => by simp [V.rens, rens_app θ l k]
@[simp] theorem lowl_app (n : Nat) : ∀ l k : List V, V.lowl n (l ++ k) = (V.lowl n l && V.lowl n k)
  | [], k => by simp [V.lowl]
  | x :: l, k => by simp [V.lowl, lowl_app n l k, Bool.and_assoc]
/-- an array that stays as it is, as data -/
def arrD (k a b : Nat) (l : List ST) : List D := [.ptr (vecD (wdR k a b) (encs k a b l)) 0, .int .i64 k, .int .i64 a, .int .i64 b]

theorem cgetD_ok {k a b : Nat} (l : List ST) (i : Nat) (h : GoodR k a b) (hw : wells k a b l) (hi : i < l.length) (hn : l.length ≤ 256) :
    Eqn Tryz.prog n_carray_Array_Get [.d (.ptr (arrD k a b l) 0), .d (.int .i64 i)] [] (.tup [.d (tsD (l.getD i (0, 0, false)).1 (l.getD i (0, 0, false)).2.1 (l.getD i (0, 0, false)).2.2), .d (.int .i64 0)]) [] := by
  refine Eqn.pure r_carray_Array_Get Plain.ok ?_
  obtain ⟨w0, w16⟩ := wdR_le h
  have hg := pget_ok (wdR k a b) (encs k a b l) i (by simpa using hi) (by simpa using hn) w0 (by omega) (encs_small k a b l)
  have hwd := pwidth_ok (wdR k a b) (encs k a b l)
  rw [encs_get hi] at hg
  have hwi := wells_get hw hi
  generalize l.getD i (0, 0, false) = s at *
  obtain ⟨y, t, f⟩ := s
  simp only at hg hwi ⊢
  have hlt := encN_lt k a b y t f
  have h16 : 2 ^ wdR k a b ≤ 2 ^ 16 := Nat.pow_le_pow_right (by omega) w16
  have h3 := wnum0_ok (encN k a b y t f) (wdR k a b) w0 (by omega) hlt (by omega)
  rw [encN_bits] at h3
  have hne : encR k a b y t f ≠ [] := by simp [encR]
  have hel := encR_len k a b y t f
  have h4 := wbytes_ok (encR k a b y t f) hne (by rw [hel]; unfold wdR at w16; omega)
  have h5 := bread_ok (bytesOf (encR k a b y t f)) (by rw [bytesOf_len, hel]; unfold wdR at w16; omega)
  have h6 := rread_ok (bytesOf (encR k a b y t f)) (k := k) (a := a) (b := b) 0 h (smallB_bytes _) (by rw [bytesOf_len, hel]; unfold wdR at w16; omega) (Nat.zero_le _) _ rfl
  rw [readR_enc h hwi] at h6
  have hB0 : u8s (bytesOf (encR k a b y t f)) = ((bytesOf (encR k a b y t f)).map fun x : Nat => D.int .u8 x).map V.d := by simp [u8s]
  have hBt : ((bytesOf (encR k a b y t f)).map fun x : Nat => D.int .u8 x).take (bytesOf (encR k a b y t f)).length = (bytesOf (encR k a b y t f)).map fun x : Nat => D.int .u8 x := List.take_of_length_le (by simp)
  have hBl : (bytesOf (encR k a b y t f)).length = ((encR k a b y t f).length + 7) / 8 := by simp
  simp only [c_carray_Array_Get, arrD, encs_len, tsD, parD, rdO, BY, wrO, wrB] at hg hwd h3 h4 h5 h6 ⊢
  generalize vecD (wdR k a b) (encs k a b l) = VD at *
  generalize encR k a b y t f = bs at *
  generalize bytesOf bs = bytes at *
  rw [← hBl] at h3 h4
  generalize hBB : (bytes.map fun x : Nat => D.int .u8 x) = LB at *
  generalize encN k a b y t f = N at *
  generalize wdR k a b = w at *
  refine A02 hg hwd ?_; try with_reducible exact tt
  refine CallS.g [1] (h3) (R0 ?_); try with_reducible exact tt
  refine CallS.g [1, 2] (h4) (R0 ?_); try with_reducible exact tt
  rw [hB0]
  have h5' : Eqn Tryz.prog n_bits_Read [.d (.sl bytes.length (List.take (bytes.length * 1) LB))] [] (.p 0 0) [⟨174, [.d (.sl bytes.length LB), .d (.int .i64 0)]⟩] := by rw [Nat.mul_one, hBt]; simpa using h5
  refine CallS.gf 3 1 ⟨5, LB.map V.d⟩ LB [] (h5') (R0 ?_); try with_reducible exact tt
  simp at h6
  refine CallS.g [4] (h6) (R0 ?_); try with_reducible exact tt

theorem clone64_ownD (ws : List Nat) (h0 : 0 < ws.length) (hn : ws.length ≤ 4000000) : Eqn Tryz.prog n_slices_Clone_uint64_uint64 [.d (.sl ws.length (ws.map fun x : Nat => D.int .u64 x))] [] (.own 0 1 ws.length) [⟨28, u64s ws⟩] := by
  refine Eqn.gen [0] r_slices_Clone_uint64_uint64 (by simp) (by simp) (by rfl) (by decide) (by simp) (by simp) ?_
  have hl : (ws.map fun x : Nat => V.d (D.int .u64 x)).take ws.length = u64s ws := List.take_of_length_le (by simp [u64s])
  have h0' : ws.length ≠ 0 := by omega
  simp only [c_slices_Clone_uint64_uint64]
  refine G0 ?_; try with_reducible exact tt
  refine AW.cond rfl (fun h => ?_) (fun h => ?_)
  · simp at h
  · repeat (first | refine AW.seq ?_ | refine AW.block ?_ | (refine AW.reg mix ?_; simp -implicitDefEqProofs [hl, h0', u64s_length]; try simp (disch := omega) only [w64, wu64]) | (refine need.of (by first | omega | kernel_rfl) ?_) | (refine AW.fin ?_; try simp -implicitDefEqProofs [hl, h0', u64s_length]))
    exact Subs.of (by simp [u64s, Function.comp_def])
theorem pcloneD_ok (w : Nat) (xs : List Nat) (h0 : 0 < nwP xs.length w) (hn : nwP xs.length w ≤ 4000000) :
    Eqn Tryz.prog n_pack_Vector_Clone [.d (.ptr (vecD w xs) 0)] [] (.p 0 0) [vecO 1 xs.length w, vecB w xs] := by
  refine Eqn.gen [1, 0] r_pack_Vector_Clone (by simp) (by simp) (by rfl) (by decide) (by simp) (by simp [vecO, vecB]) ?_
  have hc := clone64_ownD (wordsP w xs) (by simpa using h0) (by simpa using hn)
  have hlen := wordsP_len w xs
  simp only [c_pack_Vector_Clone, vecO, vecB, vecD] at hc ⊢
  generalize wordsP w xs = ws at *
  rw [hlen] at hc
  generalize nwP xs.length w = NW at *
  refine G0 ?_; try with_reducible exact tt
  refine CallS.g [] (hc) (R0 ?_); try with_reducible exact tt
theorem ccloneD_ok {k a b : Nat} (l : List ST) (hg : GoodR k a b) (h1 : 1 ≤ l.length) (hn : l.length ≤ 256) :
    Eqn Tryz.prog n_carray_Array_Clone [.d (.ptr (arrD k a b l) 0)] [] (.p 0 0) [arrO 1 k a b, arrV 2 k a b l, arrB k a b l] := by
  refine Eqn.gen [2, 0, 1] r_carray_Array_Clone (by simp) (by simp) (by rfl) (by decide) (by simp) (by simp [arrO, arrV, arrB, vecO, vecB]) ?_
  obtain ⟨p1, p2⟩ := nw_pos hg h1 hn
  have hc := pcloneD_ok (wdR k a b) (encs k a b l) (by simpa using p1) (by simpa using p2)
  simp only [c_carray_Array_Clone, arrD, arrO, arrV, arrB, vecO, vecB, encs_len] at hc ⊢
  generalize wordsP (wdR k a b) (encs k a b l) = ws at *
  generalize vecD (wdR k a b) (encs k a b l) = VD at *
  refine G0 ?_; try with_reducible exact tt
  refine CallS.g [] (hc) (R0 ?_); try with_reducible exact tt
end
end Go.Proofs.YtijbgbpjionfjaaGreatDoor.Am
namespace Go.Proofs.YtijbgbpjionfjaaGreatDoor.Am
section
section
variable {α β : Type} {f : α → List β} {n : Nat}
theorem flat_len (hf : ∀ x, (f x).length = n) : ∀ l : List α, (l.flatMap f).length = l.length * n
  | [] => by simp
  | x :: l => by rw [List.flatMap_cons, List.length_append, hf, flat_len hf l, List.length_cons, Nat.add_mul]; omega
theorem flat_drop (hf : ∀ x, (f x).length = n) : ∀ (l : List α) (i : Nat), (l.flatMap f).drop (i * n) = (l.drop i).flatMap f
  | l, 0 => by simp
  | [], i + 1 => by simp
  | x :: l, i + 1 => by
    rw [List.flatMap_cons, List.drop_succ_cons, ← flat_drop hf l i]
    have h := hf x
    rw [List.drop_append, List.drop_of_length_le (by rw [h, Nat.add_mul]; omega), h, Nat.add_mul]
    simp
theorem flat_get (hf : ∀ x, (f x).length = n) (l : List α) (i : Nat) (h : i < l.length) : ((l.flatMap f).drop (i * n)).take n = f l[i] := by
  rw [flat_drop hf, List.drop_eq_getElem_cons h, List.flatMap_cons]
  conv => lhs; arg 1; rw [← hf l[i]]
  simp
theorem take_next (l : List α) (i : Nat) (h : i < l.length) : l.take (i + 1) = l.take i ++ [l[i]] := by
  rw [List.take_add_one, List.getElem?_eq_getElem h]; rfl
end
end
end Go.Proofs.YtijbgbpjionfjaaGreatDoor.Am
namespace Go.Proofs.YtijbgbpjionfjaaGreatDoor.Am
section
open Go.RowKit
/-- a row: its hash, its registers -/
structure Rw where
  a : Nat
  b : Nat
  l : List ST
def rowD (k a b : Nat) (r : Rw) : List D := [.int .u64 r.a, .int .u64 r.b, .ptr (arrD k a b r.l) 0]
def rowsD (k a b : Nat) (rs : List Rw) : List D := rs.flatMap (rowD k a b)
/-- a sketch, its cells -/
def skD (R C k a b : Nat) (rs : List Rw) (T : Nat) : List D := [.int .i64 R, .int .i64 C, .int .i64 k, .int .i64 a, .int .i64 b, .sl rs.length (rowsD k a b rs), .int .i64 T]
def skO (R C k a b : Nat) (rs : List Rw) (T : Nat) : Ob := ⟨106, (skD R C k a b rs T).map .d⟩
def cpD (R C k a b : Nat) : D := .agg [.int .i64 R, .int .i64 C, .int .i64 k, .int .i64 a, .int .i64 b]
def GoodP (R C k a b : Nat) : Prop := 1 ≤ R ∧ R ≤ 4 ∧ 1 ≤ C ∧ C ≤ 64 ∧ GoodR k a b
def GoodRow (C k a b : Nat) (r : Rw) : Prop := r.a < hP ∧ r.b < hP ∧ r.l.length = C ∧ wells k a b r.l
def hashesD (hs : List (Nat × Nat)) : List D := hs.flatMap fun h => [.int .u64 h.1, .int .u64 h.2]
def newRow (C : Nat) (h : Nat × Nat) : Rw := ⟨h.1, h.2, List.replicate C (0, 0, false)⟩

theorem pcheck_ok {R C k a b : Nat} (h : GoodP R C k a b) : Eqn Tryz.prog n_cms_Param_Check [.d (cpD R C k a b)] [] (.d (.int .i64 0)) [] := by
  refine Eqn.pure r_cms_Param_Check Plain.ok ?_
  obtain ⟨h1, h2, h3, h4, hg⟩ := h
  have hc := rcheck_ok hg
  have g1 : ¬ (R : Int) < 1 := by omega
  have g2 : ¬ (4 : Int) < R := by omega
  have g3 : ¬ (C : Int) < 1 := by omega
  have g4 : ¬ (64 : Int) < C := by omega
  have n1 : ¬ R < 1 := by omega
  have n2 : ¬ 4 < R := by omega
  have n3 : ¬ C < 1 := by omega
  have n4 : ¬ 64 < C := by omega
  simp only [c_cms_Param_Check, cpD, parD] at hc ⊢
  refine A11 (fs g1 (fs g2 (fs g3 (fs g4 (fs n1 (fs n2 (fs n3 n4))))))) hc ?_; try with_reducible exact tt

set_option maxHeartbeats 1000000 in
theorem with_ok {R C k a b : Nat} (h : GoodP R C k a b) (hs : List (Nat × Nat)) (hl : hs.length = R) (hh : ∀ x ∈ hs, x.1 < hP ∧ x.2 < hP) :
    Eqn Tryz.prog n_cms_With [.d (cpD R C k a b), .d (.sl R (hashesD hs))] [] (.tup [.p 0 0, .d (.int .i64 0)]) [skO R C k a b (hs.map (newRow C)) 0] := by
  refine Eqn.gen [1] r_cms_With (by simp) (by simp) (by rfl) (by decide) (by simp) (by simp [skO, skD]) ?_
  have hc := pcheck_ok h
  obtain ⟨h1, h2, h3, h4, hg⟩ := h
  have hn := cnew_ok C hg h3 (by omega)
  have hhl : (hashesD hs).length = R * 2 := by rw [← hl]; exact flat_len (by simp) hs
  subst hl
  simp only [c_cms_With, cpD, arrO, arrV, arrB, vecO, vecB, List.length_replicate, parD] at hc hn ⊢
  have hL0 : u64s (wordsP (wdR k a b) (encs k a b (List.replicate C (0, 0, false)))) = ((wordsP (wdR k a b) (encs k a b (List.replicate C (0, 0, false)))).map fun x : Nat => D.int .u64 x).map V.d := by simp [u64s]
  have hrow : ∀ x : Nat × Nat, rowD k a b (newRow C x) = [.int .u64 x.1, .int .u64 x.2, .ptr [.ptr [.sl (nwP C (wdR k a b)) ((wordsP (wdR k a b) (encs k a b (List.replicate C (0, 0, false)))).map fun x : Nat => D.int .u64 x), .int .i64 C, .int .i64 (wdR k a b)] 0, .int .i64 k, .int .i64 a, .int .i64 b] 0] := by
    intro x
    simp [rowD, newRow, arrD, vecD]
  have hWl : ((wordsP (wdR k a b) (encs k a b (List.replicate C (0, 0, false)))).map fun x : Nat => D.int .u64 x).length = nwP C (wdR k a b) := by simp
  generalize hW : ((wordsP (wdR k a b) (encs k a b (List.replicate C (0, 0, false)))).map fun x : Nat => D.int .u64 x) = WD at *
  rw [hL0] at hn
  generalize nwP C (wdR k a b) = NW at *
  generalize wdR k a b = w at *
  have htk : WD.take NW = WD := List.take_of_length_le (by omega)
  obtain ⟨F, hF⟩ : ∃ F : Nat → List D, F = fun i => rowsD k a b ((hs.take i).map (newRow C)) := ⟨_, rfl⟩
  have hF0 : F 0 = [] := by rw [hF]; simp [rowsD]
  have hFn : F hs.length = rowsD k a b (hs.map (newRow C)) := by rw [hF]; simp
  have hFl : ∀ i, i ≤ hs.length → (F i).length = i * 3 := by
    intro i hi
    rw [hF]
    show (rowsD k a b ((hs.take i).map (newRow C))).length = i * 3
    unfold rowsD
    rw [flat_len (n := 3) (fun x => by simp [rowD]), List.length_map, List.length_take]; omega
  have hFs : ∀ i (h : i < hs.length), F (i + 1) = F i ++ [.int .u64 hs[i].1, .int .u64 hs[i].2, .ptr [.ptr [.sl NW WD, .int .i64 C, .int .i64 w] 0, .int .i64 k, .int .i64 a, .int .i64 b] 0] := by
    intro i hiN
    rw [hF]
    show rowsD k a b ((hs.take (i + 1)).map (newRow C)) = rowsD k a b ((hs.take i).map (newRow C)) ++ _
    rw [← hrow hs[i], take_next _ _ hiN, List.map_append, rowsD, List.flatMap_append]; simp [rowsD]
  have hsk : skO hs.length C k a b (hs.map (newRow C)) 0 = ⟨106, [.d (.int .i64 hs.length), .d (.int .i64 C), .d (.int .i64 k), .d (.int .i64 a), .d (.int .i64 b), .d (.sl hs.length (F hs.length)), .d (.int .i64 (0 : Nat))]⟩ := by
    rw [hFn]; simp [skO, skD]
  rw [hsk]
  clear hF hFn hrow hsk
  refine A01 hc ?_; try with_reducible exact tt
  refine AW.loopG (α := Nat) (fun i => setS (List.replicate 64 .junk) [(2, .p 0 0), (7, .p 1 0), (28, .d (.sl hs.length (hashesD hs))), (29, .d (.int .i64 hs.length)), (30, .d (.int .i64 (i : Int)))]) (fun i => some ⟨32, [.d (.int .i64 hs.length), .d (.int .i64 C), .d (.int .i64 k), .d (.int .i64 a), .d (.int .i64 b)]⟩ :: (if i = 0 then [some ⟨106, [.d (.int .i64 hs.length), .d (.int .i64 C), .d (.int .i64 k), .d (.int .i64 a), .d (.int .i64 b), .d .nilsl, .d (.int .i64 0)]⟩] else [some ⟨106, [.d (.int .i64 hs.length), .d (.int .i64 C), .d (.int .i64 k), .d (.int .i64 a), .d (.int .i64 b), .own 2 3 i, .d (.int .i64 0)]⟩, some ⟨111, (F i).map .d⟩])) (fun i => i ≤ hs.length) (fun i => hs.length - i) 0 ?_ (Nat.zero_le _) ?_ ?_ ?_
  · intro i hi; split <;> simp
  · simp
  · simp
  rintro i hi
  by_cases hiN : i < hs.length
  · have hi1 : (i : Int) < hs.length := by omega
    have hgt := flat_get (f := fun h : Nat × Nat => [D.int .u64 h.1, D.int .u64 h.2]) (n := 2) (by simp) hs i hiN
    have hgt' : ((hashesD hs).drop (i * 2)).take 2 = [D.int .u64 hs[i].1, D.int .u64 hs[i].2] := hgt
    have hck := hcheck_ok hs[i].1 hs[i].2 (hh _ (List.getElem_mem _)).1 (hh _ (List.getElem_mem _)).2
    have hsn := hFs i hiN
    have hbd : i * 2 + 2 ≤ hs.length * 2 := by omega
    have ew : IntKind.i64.wrap ((i : Int) + 1) = (i : Int) + 1 := w64 (by omega) (by omega)
    clear hgt
    generalize hs[i].1 = x1 at *
    generalize hs[i].2 = x2 at *
    by_cases hi0 : i = 0
    · subst hi0
      simp [hF0] at hgt' hsn
      simp
      refine A11 (fs hiN (fs hi1 (fs hgt' hhl))) hck ?_; try with_reducible exact tt
      refine CallS.g [] (hn) (R0 ?_); try with_reducible exact tt
      refine AW.freeze 5 1 ⟨28, WD.map V.d⟩ WD (by simp) rfl ?_
      simp [frzH, htk]
      refine AW.freeze 4 1 ⟨218, [.d (.sl NW WD), .d (.int .i64 C), .d (.int .i64 w)]⟩ [.sl NW WD, .int .i64 C, .int .i64 w] (by rfl) rfl ?_
      simp [frzH]
      refine AW.freeze 3 1 ⟨166, [.d (.ptr [.sl NW WD, .int .i64 C, .int .i64 w] 0), .d (.int .i64 k), .d (.int .i64 a), .d (.int .i64 b)]⟩ [.ptr [.sl NW WD, .int .i64 C, .int .i64 w] 0, .int .i64 k, .int .i64 a, .int .i64 b] (by rfl) rfl ?_
      simp [frzH]
      refine A00 ?_; try with_reducible exact tt
      refine ⟨1, 2, 7, by simp, by omega, by omega, ?_, ?_⟩
      · simp [swT, swH, sw, Ob.sw, V.ren, V.rens]
      · simp [swT, swH, sw, Ob.sw, V.ren, V.rens, hsn]
    · rw [if_neg hi0]
      simp
      refine A11 (fs hiN (fs hi1 (fs hgt' (fs hhl hbd)))) hck ?_; try with_reducible exact tt
      refine CallS.g [] (hn) (R0 ?_); try with_reducible exact tt
      refine AW.freeze 6 1 ⟨28, WD.map V.d⟩ WD (by simp) rfl ?_
      simp [frzH, htk]
      refine AW.freeze 5 1 ⟨218, [.d (.sl NW WD), .d (.int .i64 C), .d (.int .i64 w)]⟩ [.sl NW WD, .int .i64 C, .int .i64 w] (by rfl) rfl ?_
      simp [frzH]
      refine AW.freeze 4 1 ⟨166, [.d (.ptr [.sl NW WD, .int .i64 C, .int .i64 w] 0), .d (.int .i64 k), .d (.int .i64 a), .d (.int .i64 b)]⟩ [.ptr [.sl NW WD, .int .i64 C, .int .i64 w] 0, .int .i64 k, .int .i64 a, .int .i64 b] (by rfl) rfl ?_
      simp [frzH]
      have hfl := hFl i hi
      refine A10 (fs hfl ew) ?_; try with_reducible exact tt
      refine ⟨i + 1, 2, 8, by simp, by omega, by omega, ?_, ?_⟩
      · simp [swT, swH, sw, Ob.sw, V.ren, V.rens]
      · simp [swT, swH, sw, Ob.sw, V.ren, V.rens, hsn]
  · have h2 : i = hs.length := by omega
    subst h2
    have hz : hs.length ≠ 0 := by omega
    have hfl := hFl hs.length (Nat.le_refl _)
    rw [if_neg hz]
    simp
    refine AW.freeze 2 3 ⟨111, (F hs.length).map .d⟩ (F hs.length) (by simp) rfl ?_
    have htk2 : (F hs.length).take (hs.length * 3) = F hs.length := List.take_of_length_le (by omega)
    simp [frzH, htk2]
    refine A00 ?_; try with_reducible exact tt
theorem hash_get (hs : List (Nat × Nat)) (i : Nat) (h : i < hs.length) : ((hashesD hs).drop (i * 2)).take 2 = [.int .u64 hs[i].1, .int .u64 hs[i].2] := flat_get (f := fun h : Nat × Nat => [D.int .u64 h.1, D.int .u64 h.2]) (n := 2) (by simp) hs i h
theorem hash_len (hs : List (Nat × Nat)) : (hashesD hs).length = hs.length * 2 := flat_len (f := fun h : Nat × Nat => [D.int .u64 h.1, D.int .u64 h.2]) (n := 2) (by simp) hs
end
end Go.Proofs.YtijbgbpjionfjaaGreatDoor.Am
namespace Go.Proofs.YtijbgbpjionfjaaGreatDoor.Am
section
open Go.RowKit
theorem hdraw_ok (cs : List Bool) (p : Nat) (hp : p ≤ cs.length) (hn : cs.length ≤ 4000000) (Y : HR) (hY : Y = drawM cs p) : Eqn Tryz.prog n_hash_Draw [.p 0 0] [tapeO cs p false] (.tup [.d (hD Y.a Y.b), .d (.int .i64 Y.e)]) [tapeO cs Y.p Y.d] := by
  refine Eqn.obj1 r_hash_Draw (plain_tup2 _ _) ⟨rfl, fun _ => rfl⟩ ?_
  have h1 := below_ok cs p hp hn _ rfl
  have hg := belowM_good cs p hp
  unfold drawM at hY
  generalize hZ : belowM cs p = Z at *
  simp only [c_hash_Draw, hD]
  rcases hg with ⟨e0, e1, e2, e3⟩ | rfl
  · have h2 := below_ok cs Z.p e2 hn _ rfl
    have hg2 := belowM_good cs Z.p e2
    generalize belowM cs Z.p = W at *
    rw [if_pos e0] at hY
    obtain ⟨Ze, Zx, Zp, Zd⟩ := Z
    simp only at e0 e1 e2 e3 h1 h2 hY
    subst e0 e3
    rcases hg2 with ⟨f0, f1, f2, f3⟩ | rfl
    · rw [if_pos f0] at hY
      obtain ⟨We, Wx, Wp, Wd⟩ := W
      simp only at f0 f1 f2 f3 h2 hY
      subst f0 f3 hY
      refine G0 ?_; try with_reducible exact tt
      refine CallS.o1 0 (h1) (R0 ?_); try with_reducible exact tt
      refine A00 ?_; try with_reducible exact tt
      refine CallS.o1 0 (h2) (R0 ?_); try with_reducible exact tt
      refine A00 ?_; try with_reducible exact tt
    · rw [if_neg (by simp)] at hY
      subst hY
      refine G0 ?_; try with_reducible exact tt
      refine CallS.o1 0 (h1) (R0 ?_); try with_reducible exact tt
      refine A00 ?_; try with_reducible exact tt
      refine CallS.o1 0 (h2) (R0 ?_); try with_reducible exact tt
      refine A00 ?_; try with_reducible exact tt
  · rw [if_neg (by simp)] at hY
    subst hY
    refine G0 ?_; try with_reducible exact tt
    refine CallS.o1 0 (h1) (R0 ?_); try with_reducible exact tt
    refine A00 ?_; try with_reducible exact tt

theorem pcheck_bad {R C : Int} {k a b : Nat} (h : ¬ (1 ≤ R ∧ R ≤ 4 ∧ 1 ≤ C ∧ C ≤ 64)) : Eqn Tryz.prog n_cms_Param_Check [.d (.agg [.int .i64 R, .int .i64 C, .int .i64 k, .int .i64 a, .int .i64 b])] [] (.d (.int .i64 10)) [] := by
  refine Eqn.pure r_cms_Param_Check Plain.ok ?_
  simp only [c_cms_Param_Check]
  by_cases g1 : R < 1
  · refine A10 g1 ?_; try with_reducible exact tt
  by_cases g2 : 4 < R
  · refine A10 (fs g1 g2) ?_; try with_reducible exact tt
  by_cases g3 : C < 1
  · refine A10 (fs g1 (fs g2 g3)) ?_; try with_reducible exact tt
  have g4 : 64 < C := by omega
  refine A10 (fs g1 (fs g2 (fs g3 g4))) ?_; try with_reducible exact tt
theorem snew_bad {R C : Int} {k a b : Nat} (cs : List Bool) (p : Nat) (d : Bool) (h : ¬ (1 ≤ R ∧ R ≤ 4 ∧ 1 ≤ C ∧ C ≤ 64)) : Eqn Tryz.prog n_cms_New [.p 0 0, .d (.agg [.int .i64 R, .int .i64 C, .int .i64 k, .int .i64 a, .int .i64 b])] [tapeO cs p d] (.tup [.d .nilp, .d (.int .i64 10)]) [tapeO cs p d] := by
  refine Eqn.obj1 r_cms_New (plain_tup2 _ _) ⟨rfl, fun _ => rfl⟩ ?_
  have hc := pcheck_bad (k := k) (a := a) (b := b) h
  simp only [c_cms_New]
  refine A01 hc ?_; try with_reducible exact tt
theorem with_none {R C k a b : Nat} (h : GoodP R C k a b) : Eqn Tryz.prog n_cms_With [.d (cpD R C k a b), .d .nilsl] [] (.tup [.d .nilp, .d (.int .i64 10)]) [] := by
  refine Eqn.pure r_cms_With Plain.ok ?_
  have hc := pcheck_ok h
  have h1 : ¬ (0 : Int) = R := by have := h.1; omega
  have h2 : ¬ 0 = R := by have := h.1; omega
  simp only [c_cms_With, cpD] at hc ⊢
  refine A11 (fs h1 h2) hc ?_; try with_reducible exact tt

set_option maxHeartbeats 1000000 in
theorem snew_any {R C k a b : Nat} (h : GoodP R C k a b) (cs : List Bool) (p : Nat) (hp : p ≤ cs.length) (hn : cs.length ≤ 4000000) (S : DR) (hS : S = drawsM cs p R) :
    (S.e = 0 → Eqn Tryz.prog n_cms_New [.p 0 0, .d (cpD R C k a b)] [tapeO cs p false] (.tup [.p 1 0, .d (.int .i64 0)]) [tapeO cs S.p false, skO R C k a b (S.l.map (newRow C)) 0]) ∧
    (S.e ≠ 0 → Eqn Tryz.prog n_cms_New [.p 0 0, .d (cpD R C k a b)] [tapeO cs p false] (.tup [.d .nilp, .d (.int .i64 8)]) [tapeO cs cs.length true]) := by
  have hc := pcheck_ok h
  have hdg := drawsM_good cs p hp
  have h1 := h.1
  have h4 := h.2.1
  simp only [cpD] at hc
  constructor
  · intro he0
    have hgl : ∀ x ∈ S.l, x.1 < hP ∧ x.2 < hP := by
      rcases hdg R with h | h
      · rw [hS]; exact h.2.2.1
      · rw [hS, h] at he0; exact absurd he0 (by simp)
    have hlR : S.l.length = R := by
      rcases hdg R with h | h
      · rw [hS]; exact h.2.1
      · rw [hS, h] at he0; exact absurd he0 (by simp)
    have hw := with_ok h S.l hlR hgl
    refine Eqn.gen [0, 3] r_cms_New (by simp) (by simp) (by rfl) (by decide) (by simp) (by simp [skO, skD, tapeO]) ?_
    simp only [c_cms_New, cpD]
    refine A01 hc ?_; try with_reducible exact tt
    refine AW.loopG (α := Nat) (fun i => setS (List.replicate 37 .junk) [(0, .p 0 0), (3, .p 1 0), (7, if i = 0 then .d .nilsl else .own 2 2 i), (16, .d (.int .i64 R)), (17, .d (.int .i64 (i : Int)))]) (fun i => some (tapeO cs (drawsM cs p i).p false) :: some ⟨32, [.d (.int .i64 R), .d (.int .i64 C), .d (.int .i64 k), .d (.int .i64 a), .d (.int .i64 b)]⟩ :: (if i = 0 then [] else [some ⟨62, (hashesD (drawsM cs p i).l).map .d⟩])) (fun i => i ≤ R ∧ (drawsM cs p i).e = 0) (fun i => R - i) 0 ?_ ⟨Nat.zero_le _, rfl⟩ ?_ ?_ ?_
    · intro i hi; split <;> simp
    · simp
    · simp [drawsM]
    rintro i ⟨hi, he⟩
    obtain ⟨-, dl, dg, dp, -⟩ : (drawsM cs p i).e = 0 ∧ (drawsM cs p i).l.length = i ∧ (∀ x ∈ (drawsM cs p i).l, x.1 < hP ∧ x.2 < hP) ∧ (drawsM cs p i).p ≤ cs.length ∧ (drawsM cs p i).d = false := by
      rcases hdg i with h | h
      · exact h
      · rw [h] at he; exact absurd he (by simp)
    have hst : drawsM cs p (i + 1) = if (drawM cs (drawsM cs p i).p).e = 0 then ⟨0, (drawsM cs p i).l ++ [((drawM cs (drawsM cs p i).p).a, (drawM cs (drawsM cs p i).p).b)], (drawM cs (drawsM cs p i).p).p, false⟩ else ⟨8, [], cs.length, true⟩ := by
      rw [drawsM, if_pos he]
    have hdr := hdraw_ok cs (drawsM cs p i).p dp hn _ rfl
    have hgd := drawM_good cs (drawsM cs p i).p dp
    by_cases hiR : i < R
    · have hi1 : (i : Int) < R := by omega
      have hno : (drawsM cs p (i + 1)).e = 0 := by
        by_cases h : (drawsM cs p (i + 1)).e = 0
        · exact h
        · have := drawsM_stay h (R - (i + 1))
          rw [show i + 1 + (R - (i + 1)) = R by omega, ← hS] at this
          rw [← this]; exact he0
      have ew : IntKind.i64.wrap ((i : Int) + 1) = (i : Int) + 1 := w64 (by omega) (by omega)
      rw [hst] at hno
      rcases hgd with ⟨y0, y1, y2, y3, y4⟩ | hy
      rotate_left
      · rw [hy] at hno; exact absurd hno (by simp)
      clear hno
      rw [if_pos y0] at hst
      have hsn : hashesD (drawsM cs p (i + 1)).l = hashesD (drawsM cs p i).l ++ [.int .u64 (drawM cs (drawsM cs p i).p).a, .int .u64 (drawM cs (drawsM cs p i).p).b] := by rw [hst]; simp [hashesD]
      have hsp : (drawsM cs p (i + 1)).p = (drawM cs (drawsM cs p i).p).p := by rw [hst]
      have hse : (drawsM cs p (i + 1)).e = 0 := by rw [hst]
      have hfl := hash_len (drawsM cs p i).l
      rw [dl] at hfl
      clear hst hdg
      generalize drawM cs (drawsM cs p i).p = Y at *
      obtain ⟨Ye, Ya, Yb, Yp, Yd⟩ := Y
      simp only at y0 y1 y2 y3 y4 hsn hsp hdr
      subst y0 y4
      simp only [hD] at hdr
      by_cases hi0 : i = 0
      · subst hi0
        rw [show hashesD (drawsM cs p 0).l = [] from rfl] at hsn
        simp at hsn hsp hse
        simp
        refine A10 (fs hiR hi1) ?_; try with_reducible exact tt
        refine CallS.o1 0 (hdr) (R0 ?_); try with_reducible exact tt
        refine A00 ?_; try with_reducible exact tt
        refine ⟨1, 2, 4, by simp, ⟨by omega, hse⟩, by omega, ?_, ?_⟩
        · simp [swT, swH, sw, Ob.sw, V.ren, V.rens]
        · simp [swT, swH, sw, Ob.sw, V.ren, V.rens, hsn, hsp]
      · rw [if_neg hi0, if_neg hi0]
        simp
        refine A10 (fs hiR hi1) ?_; try with_reducible exact tt
        refine CallS.o1 0 (hdr) (R0 ?_); try with_reducible exact tt
        refine A10 (fs hfl ew) ?_; try with_reducible exact tt
        refine ⟨i + 1, 2, 5, by simp, ⟨by omega, hse⟩, by omega, ?_, ?_⟩
        · simp [swT, swH, sw, Ob.sw, V.ren, V.rens]
        · simp [swT, swH, sw, Ob.sw, V.ren, V.rens, hsn, hsp]
    · have h2 : i = R := by omega
      subst h2
      rw [← hS] at dl ⊢
      have hz : i ≠ 0 := by omega
      have hfl := hash_len S.l
      rw [dl] at hfl
      have hht : (hashesD S.l).take (i * 2) = hashesD S.l := List.take_of_length_le (by omega)
      simp only [skO, skD, cpD, List.map_cons, List.map_nil] at hw ⊢
      generalize S.l.map (newRow C) = rs0 at *
      generalize hashesD S.l = HD at *
      rw [← hht] at hw
      rw [if_neg hz, if_neg hz]
      simp
      refine A00 ?_; try with_reducible exact tt
      refine CallS.gf 2 2 ⟨62, HD.map V.d⟩ HD [] (hw) (R0 ?_); try with_reducible exact tt
  · intro he0
    refine Eqn.gen [0] r_cms_New (by simp) (by simp) (by rfl) (by decide) (by simp) (by simp [tapeO]) ?_
    simp only [c_cms_New, cpD]
    refine A01 hc ?_; try with_reducible exact tt
    refine AW.loopG (α := Nat) (fun i => setS (List.replicate 37 .junk) [(0, .p 0 0), (3, .p 1 0), (7, if i = 0 then .d .nilsl else .own 2 2 i), (16, .d (.int .i64 R)), (17, .d (.int .i64 (i : Int)))]) (fun i => some (tapeO cs (drawsM cs p i).p false) :: some ⟨32, [.d (.int .i64 R), .d (.int .i64 C), .d (.int .i64 k), .d (.int .i64 a), .d (.int .i64 b)]⟩ :: (if i = 0 then [] else [some ⟨62, (hashesD (drawsM cs p i).l).map .d⟩])) (fun i => i ≤ R ∧ (drawsM cs p i).e = 0) (fun i => R - i) 0 ?_ ⟨Nat.zero_le _, rfl⟩ ?_ ?_ ?_
    · intro i hi; split <;> simp
    · simp
    · simp [drawsM]
    rintro i ⟨hi, he⟩
    obtain ⟨-, dl, dg, dp, -⟩ : (drawsM cs p i).e = 0 ∧ (drawsM cs p i).l.length = i ∧ (∀ x ∈ (drawsM cs p i).l, x.1 < hP ∧ x.2 < hP) ∧ (drawsM cs p i).p ≤ cs.length ∧ (drawsM cs p i).d = false := by
      rcases hdg i with h | h
      · exact h
      · rw [h] at he; exact absurd he (by simp)
    have hst : drawsM cs p (i + 1) = if (drawM cs (drawsM cs p i).p).e = 0 then ⟨0, (drawsM cs p i).l ++ [((drawM cs (drawsM cs p i).p).a, (drawM cs (drawsM cs p i).p).b)], (drawM cs (drawsM cs p i).p).p, false⟩ else ⟨8, [], cs.length, true⟩ := by
      rw [drawsM, if_pos he]
    have hdr := hdraw_ok cs (drawsM cs p i).p dp hn _ rfl
    have hgd := drawM_good cs (drawsM cs p i).p dp
    by_cases hiR : i < R
    · have hi1 : (i : Int) < R := by omega
      have ew : IntKind.i64.wrap ((i : Int) + 1) = (i : Int) + 1 := w64 (by omega) (by omega)
      rcases hgd with ⟨y0, y1, y2, y3, y4⟩ | hy
      · rw [if_pos y0] at hst
        have hsn : hashesD (drawsM cs p (i + 1)).l = hashesD (drawsM cs p i).l ++ [.int .u64 (drawM cs (drawsM cs p i).p).a, .int .u64 (drawM cs (drawsM cs p i).p).b] := by rw [hst]; simp [hashesD]
        have hsp : (drawsM cs p (i + 1)).p = (drawM cs (drawsM cs p i).p).p := by rw [hst]
        have hse : (drawsM cs p (i + 1)).e = 0 := by rw [hst]
        have hfl := hash_len (drawsM cs p i).l
        rw [dl] at hfl
        clear hst hdg
        generalize drawM cs (drawsM cs p i).p = Y at *
        obtain ⟨Ye, Ya, Yb, Yp, Yd⟩ := Y
        simp only at y0 y1 y2 y3 y4 hsn hsp hdr
        subst y0 y4
        simp only [hD] at hdr
        by_cases hi0 : i = 0
        · subst hi0
          rw [show hashesD (drawsM cs p 0).l = [] from rfl] at hsn
          simp at hsn hsp hse
          simp
          refine A10 (fs hiR hi1) ?_; try with_reducible exact tt
          refine CallS.o1 0 (hdr) (R0 ?_); try with_reducible exact tt
          refine A00 ?_; try with_reducible exact tt
          refine ⟨1, 2, 4, by simp, ⟨by omega, hse⟩, by omega, ?_, ?_⟩
          · simp [swT, swH, sw, Ob.sw, V.ren, V.rens]
          · simp [swT, swH, sw, Ob.sw, V.ren, V.rens, hsn, hsp]
        · rw [if_neg hi0, if_neg hi0]
          simp
          refine A10 (fs hiR hi1) ?_; try with_reducible exact tt
          refine CallS.o1 0 (hdr) (R0 ?_); try with_reducible exact tt
          refine A10 (fs hfl ew) ?_; try with_reducible exact tt
          refine ⟨i + 1, 2, 5, by simp, ⟨by omega, hse⟩, by omega, ?_, ?_⟩
          · simp [swT, swH, sw, Ob.sw, V.ren, V.rens]
          · simp [swT, swH, sw, Ob.sw, V.ren, V.rens, hsn, hsp]
      · rw [hy] at hdr
        simp only [hD] at hdr
        by_cases hi0 : i = 0
        · subst hi0
          simp
          refine A10 (fs hiR hi1) ?_; try with_reducible exact tt
          refine CallS.o1 0 (hdr) (R0 ?_); try with_reducible exact tt
          refine A00 ?_; try with_reducible exact tt
        · rw [if_neg hi0, if_neg hi0]
          simp
          refine A10 (fs hiR hi1) ?_; try with_reducible exact tt
          refine CallS.o1 0 (hdr) (R0 ?_); try with_reducible exact tt
          refine A00 ?_; try with_reducible exact tt
    · have h2 : i = R := by omega
      subst h2
      rw [← hS] at he
      exact absurd he he0
theorem drawsM_pre {cs : List Bool} {p i : Nat} : ∀ j, (drawsM cs p (i + j)).e = 0 → ∃ t, (drawsM cs p (i + j)).l = (drawsM cs p i).l ++ t
  | 0, _ => ⟨[], by simp⟩
  | j + 1, h => by
    rw [← Nat.add_assoc, drawsM] at h ⊢
    by_cases h0 : (drawsM cs p (i + j)).e = 0
    · rw [if_pos h0] at h ⊢
      obtain ⟨t, ht⟩ := drawsM_pre j h0
      by_cases h1 : (drawM cs (drawsM cs p (i + j)).p).e = 0
      · rw [if_pos h1]
        exact ⟨t ++ [_], by simp only [ht, List.append_assoc]; rfl⟩
      · rw [if_neg h1] at h; exact absurd h (by simp)
    · rw [if_neg h0] at h; exact absurd h h0
theorem drawsM_get {cs : List Bool} {p r R : Nat} (hp : p ≤ cs.length) (h : r < R) (he : (drawsM cs p R).e = 0) : (drawsM cs p r).e = 0 ∧ (drawM cs (drawsM cs p r).p).e = 0 ∧ (drawsM cs p R).l[r]? = some ((drawM cs (drawsM cs p r).p).a, (drawM cs (drawsM cs p r).p).b) := by
  have key : ∀ i, i ≤ R → (drawsM cs p i).e = 0 := fun i hi => by
    by_cases h : (drawsM cs p i).e = 0
    · exact h
    · have := drawsM_stay h (R - i)
      rw [show i + (R - i) = R by omega] at this
      rw [← this]; exact he
  have h0 := key r (by omega)
  have h1 := key (r + 1) (by omega)
  have hl : (drawsM cs p r).l.length = r := by
    rcases drawsM_good cs p hp r with h | h
    · exact h.2.1
    · rw [h] at h0; exact absurd h0 (by simp)
  obtain ⟨t, ht⟩ := drawsM_pre (cs := cs) (p := p) (i := r + 1) (R - (r + 1)) (by rw [show r + 1 + (R - (r + 1)) = R by omega]; exact he)
  rw [show r + 1 + (R - (r + 1)) = R by omega] at ht
  rw [drawsM, if_pos h0] at h1 ht
  by_cases h2 : (drawM cs (drawsM cs p r).p).e = 0
  · rw [if_pos h2] at ht
    refine ⟨h0, h2, ?_⟩
    rw [ht]
    simp only
    rw [List.append_assoc, List.getElem?_append_right (by omega), hl]
    simp
  · rw [if_neg h2] at h1; exact absurd h1 (by simp)
end
end Go.Proofs.YtijbgbpjionfjaaGreatDoor.Am
namespace Go.Proofs.YtijbgbpjionfjaaGreatDoor.Am
section
open Go.RowKit
theorem cloneR_own (n : Nat) (L : List D) (h0 : 0 < n) (hl : L.length = n * 3) (hn : n ≤ 4000) : Eqn Tryz.prog n_slices_Clone_cms_row_cms_row [.d (.sl n L)] [] (.own 0 3 n) [⟨111, L.map .d⟩] := by
  refine Eqn.gen [0] r_slices_Clone_cms_row_cms_row (by simp) (by simp) (by rfl) (by decide) (by simp) (by simp) ?_
  have h0' : n ≠ 0 := by omega
  have hlt : L.take (n * 3) = L := List.take_of_length_le (by omega)
  have hb : (n : Int) * 24 ≤ 140737488355328 := by omega
  simp only [c_slices_Clone_cms_row_cms_row]
  refine A10 (fs h0' (fs hl (fs hlt hb))) ?_; try with_reducible exact tt

theorem sclone1_ok {C k a b T : Nat} (hg : GoodR k a b) (h1 : 1 ≤ C) (h2 : C ≤ 64) (r : Rw) (hr : GoodRow C k a b r) :
    Eqn Tryz.prog n_cms_Sketch_Clone [.p 0 0] [skO 1 C k a b [r] T] (.p 1 0) [skO 1 C k a b [r] T, ⟨106, [.d (.int .i64 (1 : Nat)), .d (.int .i64 C), .d (.int .i64 k), .d (.int .i64 a), .d (.int .i64 b), .own 2 3 1, .d (.int .i64 T)]⟩, ⟨111, [.d (.int .u64 r.a), .d (.int .u64 r.b), .p 3 0]⟩, arrO 4 k a b, arrV 5 k a b r.l, arrB k a b r.l] := by
  obtain ⟨A, B, l⟩ := r
  obtain ⟨-, -, hl, hw⟩ := hr
  simp only at hl
  refine Eqn.gen [0, 1, 2, 4, 5, 6] r_cms_Sketch_Clone (by simp) (by simp) (by rfl) (by decide) (by simp) (by simp [skO, skD, arrO, arrV, arrB, vecO, vecB, u64s]) ?_
  have hc := cloneR_own 1 [.int .u64 A, .int .u64 B, .ptr (arrD k a b l) 0] (by omega) rfl (by omega)
  have hd := ccloneD_ok l hg (by omega) (by omega)
  simp only [c_cms_Sketch_Clone, skO, skD, rowsD, rowD, List.flatMap_cons, List.flatMap_nil, List.append_nil, List.map_cons, List.map_nil, List.length_cons, List.length_nil, arrO, arrV, arrB, vecO, vecB] at hc hd ⊢
  generalize arrD k a b l = AD at *
  generalize wordsP (wdR k a b) (encs k a b l) = WS at *
  generalize nwP l.length (wdR k a b) = NW at *
  generalize wdR k a b = w at *
  refine G0 ?_; try with_reducible exact tt
  refine CallS.g [] (hc) (R0 ?_); try with_reducible exact tt
  refine AW.rounds 2 ?_
  refine A00 ?_; try with_reducible exact tt
  refine CallS.g [] (hd) (R0 ?_); try with_reducible exact tt
  refine A00 ?_; try with_reducible exact tt

/-- the column of a key -/
def colOf (C A B key : Nat) : Nat := hsum A B key % C
set_option maxHeartbeats 1000000 in
theorem supd1_ok {C k a b T : Nat} (hg : GoodR k a b) (h1 : 1 ≤ C) (h2 : C ≤ 64) (A B : Nat) (l : List ST) (hr : GoodRow C k a b ⟨A, B, l⟩) (cs : List Bool) (key n p : Nat) (d : Bool) (hk : key < hP) (hn : n ≤ 1048576) (hT : T + n ≤ 1099511627776) (hp : p ≤ cs.length) (hc : cs.length ≤ 4000000) (R : TR)
    (hR : R = addRM cs k a b n (l.getD (colOf C A B key) (0, 0, false)).1 (l.getD (colOf C A B key) (0, 0, false)).2.1 (l.getD (colOf C A B key) (0, 0, false)).2.2 p d) :
    Eqn Tryz.prog n_cms_Sketch_Update [.p 0 0, .p 1 0, .d (.int .u64 key), .d (.int .i64 n)] [skO 1 C k a b [⟨A, B, l⟩] T, tapeO cs p d] (.d (.int .i64 R.e))
      [if R.e = 0 then skO 1 C k a b [⟨A, B, l.set (colOf C A B key) (R.y, R.t, R.f)⟩] (T + n) else skO 1 C k a b [⟨A, B, l⟩] T, tapeO cs R.p R.d] := by
  have hcl := sclone1_ok (T := T) hg h1 h2 ⟨A, B, l⟩ hr
  obtain ⟨hA, hB, hl, hw⟩ := hr
  simp only at hA hB hl hw
  have hcol : colOf C A B key < C := Nat.mod_lt _ (by omega)
  have hof := hof_ok A B key C hA hB hk h1 h2
  rw [show hsum A B key % C = colOf C A B key from rfl] at hof
  have hadd := cadd_ok cs l (colOf C A B key) n p d hg hw (by omega) (by omega) hn hp hc R hR
  clear hR
  generalize colOf C A B key = col at *
  obtain ⟨e, ry, rt, rf, rp, rd⟩ := R
  simp only at hadd ⊢
  refine Eqn.gen [0, 1] r_cms_Sketch_Update (by simp) (by simp) (by rfl) (by decide) (by simp) (by intro ob hob; simp at hob; rcases hob with rfl | rfl; (split <;> simp [skO, skD]); simp [tapeO]) ?_
  have g1 : ¬ (2305843009213693951 : Int) ≤ key := by unfold hP at hk; omega
  have g2 : ¬ 2305843009213693951 ≤ key := by unfold hP at hk; omega
  have g3 : ¬ (n : Int) < 0 := by omega
  have g4 : ¬ (1048576 : Int) < n := by omega
  have g5 : ¬ 1048576 < n := by omega
  have g6 : IntKind.i64.wrap ((T : Int) + n) = ((T + n : Nat) : Int) := by rw [w64 (by omega) (by omega)]; omega
  have g7 : ¬ (1099511627776 : Int) < (T : Int) + n := by omega
  have g8 : ¬ 1099511627776 < T + n := by omega
  have hdr : (arrD k a b l) = arrD k a b l := rfl
  simp only [c_cms_Sketch_Update, skO, skD, rowsD, rowD, List.flatMap_cons, List.flatMap_nil, List.append_nil, List.map_cons, List.map_nil, List.length_cons, List.length_nil, arrO, arrV, arrB, vecO, vecB, hD] at hcl hof hadd ⊢
  by_cases he : e = 0
  · subst he
    simp only [if_true, List.length_set] at hadd ⊢
    have hAD : arrD k a b (l.set col (ry, rt, rf)) = [.ptr [.sl (nwP l.length (wdR k a b)) ((wordsP (wdR k a b) (encs k a b (l.set col (ry, rt, rf)))).map fun x : Nat => D.int .u64 x), .int .i64 l.length, .int .i64 (wdR k a b)] 0, .int .i64 k, .int .i64 a, .int .i64 b] := by simp [arrD, vecD]
    rw [hAD]
    generalize hAl : arrD k a b l = AD at *
    have hL0 : u64s (wordsP (wdR k a b) (encs k a b (l.set col (ry, rt, rf)))) = ((wordsP (wdR k a b) (encs k a b (l.set col (ry, rt, rf)))).map fun x : Nat => D.int .u64 x).map V.d := by simp [u64s]
    have hWl : ((wordsP (wdR k a b) (encs k a b (l.set col (ry, rt, rf)))).map fun x : Nat => D.int .u64 x).length = nwP l.length (wdR k a b) := by simp
    rw [hL0] at hadd
    generalize ((wordsP (wdR k a b) (encs k a b (l.set col (ry, rt, rf)))).map fun x : Nat => D.int .u64 x) = WD at *
    generalize wordsP (wdR k a b) (encs k a b l) = WS at *
    generalize nwP l.length (wdR k a b) = NW at *
    have htk : WD.take NW = WD := List.take_of_length_le (by omega)
    generalize wdR k a b = w at *
    refine A10 (fs g1 (fs g2 (fs g3 (fs g4 (fs g5 (fs g6 (fs g7 g8))))))) ?_; try with_reducible exact tt
    refine CallS.g [0] (hcl) (R0 ?_); try with_reducible exact tt
    refine AW.rounds 2 ?_
    refine A01 hof ?_; try with_reducible exact tt
    refine CallS.g [4, 5, 6, 1] (hadd) (R0 ?_); try with_reducible exact tt
    refine AW.freeze 6 1 ⟨28, WD.map V.d⟩ WD (by simp) rfl ?_
    simp [frzH, htk]
    refine AW.freeze 5 1 ⟨218, [.d (.sl NW WD), .d (.int .i64 l.length), .d (.int .i64 w)]⟩ [.sl NW WD, .int .i64 l.length, .int .i64 w] (by rfl) rfl ?_
    simp [frzH]
    refine AW.freeze 4 1 ⟨166, [.d (.ptr [.sl NW WD, .int .i64 l.length, .int .i64 w] 0), .d (.int .i64 k), .d (.int .i64 a), .d (.int .i64 b)]⟩ [.ptr [.sl NW WD, .int .i64 l.length, .int .i64 w] 0, .int .i64 k, .int .i64 a, .int .i64 b] (by rfl) rfl ?_
    simp [frzH]
    refine AW.freeze 3 3 ⟨111, [.d (.int .u64 A), .d (.int .u64 B), .d (.ptr [.ptr [.sl NW WD, .int .i64 l.length, .int .i64 w] 0, .int .i64 k, .int .i64 a, .int .i64 b] 0)]⟩ [.int .u64 A, .int .u64 B, .ptr [.ptr [.sl NW WD, .int .i64 l.length, .int .i64 w] 0, .int .i64 k, .int .i64 a, .int .i64 b] 0] (by rfl) rfl ?_
    simp [frzH]
    refine A10 g6 ?_; try with_reducible exact tt
  · simp only [if_neg he, List.length_set] at hadd ⊢
    generalize hAl : arrD k a b l = AD at *
    generalize wordsP (wdR k a b) (encs k a b l) = WS at *
    generalize nwP l.length (wdR k a b) = NW at *
    generalize wdR k a b = w at *
    refine A10 (fs g1 (fs g2 (fs g3 (fs g4 (fs g5 (fs g6 (fs g7 g8))))))) ?_; try with_reducible exact tt
    refine CallS.g [0] (hcl) (R0 ?_); try with_reducible exact tt
    refine AW.rounds 2 ?_
    refine A01 hof ?_; try with_reducible exact tt
    refine CallS.g [4, 5, 6, 1] (hadd) (R0 ?_); try with_reducible exact tt
    refine A10 he ?_; try with_reducible exact tt
end
end Go.Proofs.YtijbgbpjionfjaaGreatDoor.Am
namespace Go.Proofs.YtijbgbpjionfjaaGreatDoor.Am
section
open Go.RowKit
theorem div_parts (hi lo y : Nat) (h0 : hi < y) (hl : lo < 18446744073709551616) (hy : y < 18446744073709551616) :
    ∃ s Y u v : Nat, s = 64 - bitsN y ∧ s ≤ 63 ∧ y * 2 ^ s = Y ∧ Y < 18446744073709551616 ∧ 9223372036854775808 ≤ Y ∧ hi * 2 ^ s < 18446744073709551616 ∧ hi * 2 ^ s ||| lo / 2 ^ (64 - s) = u ∧ lo * 2 ^ s % 18446744073709551616 = v ∧ u < Y ∧ v < 18446744073709551616 ∧
      (hi * 18446744073709551616 + lo) * 2 ^ s = u * 18446744073709551616 + v := by
  obtain ⟨b1, b2⟩ := bitsN_pos (n := y) (by omega)
  have b3 := lt_bitsN y
  have b4 : bitsN y ≤ 64 := bitsN_le (by omega)
  have hs : 64 - bitsN y ≤ 63 := by omega
  have hY1 : y * 2 ^ (64 - bitsN y) < 18446744073709551616 := by
    have : 2 ^ bitsN y * 2 ^ (64 - bitsN y) = 18446744073709551616 := by rw [← Nat.pow_add, show bitsN y + (64 - bitsN y) = 64 by omega]
    rw [← this]
    exact Nat.mul_lt_mul_of_pos_right b3 (Nat.two_pow_pos _)
  have hY2 : 9223372036854775808 ≤ y * 2 ^ (64 - bitsN y) := by
    have : 2 ^ (bitsN y - 1) * 2 ^ (64 - bitsN y) = 9223372036854775808 := by rw [← Nat.pow_add, show bitsN y - 1 + (64 - bitsN y) = 63 by omega]
    rw [← this]
    exact Nat.mul_le_mul_right _ b1
  generalize 64 - bitsN y = s at *
  have hB : (18446744073709551616 : Nat) = 2 ^ s * 2 ^ (64 - s) := by rw [← Nat.pow_add, show s + (64 - s) = 64 by omega]
  have hp := Nat.two_pow_pos s
  have hp' := Nat.two_pow_pos (64 - s)
  have hh : hi * 2 ^ s < y * 2 ^ s := Nat.mul_lt_mul_of_pos_right h0 hp
  have hlq : lo / 2 ^ (64 - s) < 2 ^ s := by rw [Nat.div_lt_iff_lt_mul hp', ← hB]; exact hl
  have hor : hi * 2 ^ s ||| lo / 2 ^ (64 - s) = hi * 2 ^ s + lo / 2 ^ (64 - s) := by
    rw [Nat.mul_comm, ← Nat.two_pow_add_eq_or_of_lt hlq]
  have hlo : lo * 2 ^ s = lo / 2 ^ (64 - s) * 18446744073709551616 + lo * 2 ^ s % 18446744073709551616 := by
    have h1 : lo * 2 ^ s / 18446744073709551616 = lo / 2 ^ (64 - s) := by
      conv => lhs; rw [hB]
      rw [Nat.mul_comm lo, Nat.mul_div_mul_left _ _ hp]
    have h2 := Nat.div_add_mod (lo * 2 ^ s) 18446744073709551616
    rw [h1] at h2
    omega
  have hlm : lo * 2 ^ s % 18446744073709551616 < 18446744073709551616 := Nat.mod_lt _ (by decide)
  have hN : (hi * 18446744073709551616 + lo) * 2 ^ s = (hi * 2 ^ s) * 18446744073709551616 + lo * 2 ^ s := by
    rw [Nat.add_mul, Nat.mul_right_comm]
  refine ⟨s, y * 2 ^ s, hi * 2 ^ s + lo / 2 ^ (64 - s), lo * 2 ^ s % 18446744073709551616, rfl, hs, rfl, hY1, hY2, by omega, hor, rfl, ?_, hlm, ?_⟩
  · have h1 : (hi + 1) * 2 ^ s ≤ y * 2 ^ s := Nat.mul_le_mul_right _ h0
    rw [Nat.add_mul, Nat.one_mul] at h1
    omega
  · rw [hN, hlo, Nat.add_mul]
    generalize lo * 2 ^ s % 18446744073709551616 = a at *
    generalize lo / 2 ^ (64 - s) = b at *
    generalize hi * 2 ^ s = c at *
    omega

/-- a half digit: q guessed, r left -/
def hInv (Y1 Y0 u v : Nat) (q r : Nat) : Prop := q * Y1 + r = u ∧ u * 4294967296 + v < (q + 1) * (Y1 * 4294967296 + Y0) ∧ r < 4294967296

theorem hInv_first {Y1 Y0 u v : Nat} (h1 : 0 < Y1) (h2 : Y1 < 4294967296) (hv : v < 4294967296) : hInv Y1 Y0 u v (u / Y1) (u % Y1) := by
  refine ⟨?_, half_first h1 hv, ?_⟩
  · rw [Nat.mul_comm]; exact Nat.div_add_mod u Y1
  · have := Nat.mod_lt u h1; omega

set_option maxHeartbeats 8000000 in
theorem div64_ok (hi lo y : Nat) (h0 : hi < y) (hl : lo < 18446744073709551616) (hy : y < 18446744073709551616) : Eqn Tryz.prog n_math_bits_Div64 [.d (.int .u64 hi), .d (.int .u64 lo), .d (.int .u64 y)] [] (.tup [.d (.int .u64 ((hi * 18446744073709551616 + lo) / y : Nat)), .d (.int .u64 ((hi * 18446744073709551616 + lo) % y : Nat))]) [] := by
  rcases Nat.eq_zero_or_pos hi with rfl | hpos
  · rw [Nat.zero_mul, Nat.zero_add]
    exact div64_small lo y hl (by omega)
  refine Eqn.pure r_math_bits_Div64 (plain_tup2 _ _) ?_
  simp only [c_math_bits_Div64]
  obtain ⟨s, Y, u, v, hs, hs63, hY, hYl, hYg, hhs, hor, hv, hu, hvl, hN⟩ := div_parts hi lo y h0 hl hy
  have hq : (hi * 18446744073709551616 + lo) / y = (u * 18446744073709551616 + v) / Y := by rw [← hN, ← hY]; exact shifted_div.1.symm
  have hr : (hi * 18446744073709551616 + lo) % y = (u * 18446744073709551616 + v) % Y / 2 ^ s := by rw [← hN, ← hY]; exact shifted_div.2.symm
  rw [hq, hr]
  clear hq hr hN
  obtain ⟨Qf, hQf⟩ : ∃ Qf, Qf = (u * 18446744073709551616 + v) / Y := ⟨_, rfl⟩
  obtain ⟨Rf, hRf⟩ : ∃ Rf, Rf = (u * 18446744073709551616 + v) % Y / 2 ^ s := ⟨_, rfl⟩
  rw [← hQf, ← hRf]
  have h1 : ¬ y = 0 := by omega
  have h2 : ¬ (y : Int) ≤ hi := by omega
  have h3 : ¬ hi = 0 := by omega
  have h1' : ¬ (y : Int) = 0 := by omega
  have h3' : ¬ (hi : Int) = 0 := by omega
  refine G1 (fs h1 h1') ?_; try with_reducible exact tt
  refine AW.cond rfl (fun h => ?_) (fun h => ?_)
  · simp [h1] at h
  refine G1 h2 ?_; try with_reducible exact tt
  refine AW.cond rfl (fun h => ?_) (fun h => ?_)
  · simp [h2] at h
  refine G1 (fs h3 h3') ?_; try with_reducible exact tt
  refine AW.cond rfl (fun h => ?_) (fun h => ?_)
  · simp [h3] at h
  refine G0 ?_; try with_reducible exact tt
  have hlead := lead64_ok y hy
  rw [← hs] at hlead
  have hq1' := Nat.div_add_mod Y 4294967296
  have hY0' : Y % 4294967296 < 4294967296 := Nat.mod_lt _ (by decide)
  have hv' := Nat.div_add_mod v 4294967296
  have hv0' : v % 4294967296 < 4294967296 := Nat.mod_lt _ (by decide)
  have f1 : IntKind.u64.wrap (s : Int) = s := wu64 (by omega) (by omega)
  have f2 : IntKind.u64.wrap ((y : Int) * 2 ^ s) = Y := by
    rw [show (y : Int) * 2 ^ s = ((y * 2 ^ s : Nat) : Int) by rw [Int.natCast_mul, Int.natCast_pow]; rfl, hY]; exact wu64 (by omega) (by omega)
  have f3 : (Y : Int) / 4294967296 = (Y / 4294967296 : Nat) := rfl
  have f4 := and32 Y hYl
  have f5 : IntKind.u64.wrap ((hi : Int) * 2 ^ s) = (hi * 2 ^ s : Nat) := by
    rw [show (hi : Int) * 2 ^ s = ((hi * 2 ^ s : Nat) : Int) by rw [Int.natCast_mul, Int.natCast_pow]; rfl]; exact wu64 (by omega) (by omega)
  have f6 : IntKind.u64.wrap ((64 : Int) - s) = (64 : Int) - s := wu64 (by omega) (by omega)
  have f7 : ((64 : Int) - s).toNat = 64 - s := by omega
  have f8 : (lo : Int) / 2 ^ (64 - s) = (lo / 2 ^ (64 - s) : Nat) := by rw [Int.natCast_ediv, Int.natCast_pow]; rfl
  have hll : lo / 2 ^ (64 - s) ≤ lo := Nat.div_le_self _ _
  have f9 := bits_or_u64_nat (hi * 2 ^ s) (lo / 2 ^ (64 - s)) hhs (by omega)
  rw [hor] at f9
  have f10 : IntKind.u64.wrap ((lo : Int) * 2 ^ s) = v := by
    rw [IntKind.wrap_u64, show (lo : Int) * 2 ^ s = ((lo * 2 ^ s : Nat) : Int) by rw [Int.natCast_mul, Int.natCast_pow]; rfl, ← hv]; rfl
  have f11 : (v : Int) / 4294967296 = (v / 4294967296 : Nat) := rfl
  have f12 := and32 v hvl
  have f13 : (s : Int) ≤ 64 := by omega
  have f14 : (0 : Int) ≤ 64 - s := by omega
  have f15 : (64 : Int) - s ≤ 64 := by omega
  generalize Y / 4294967296 = Y1 at *
  generalize Y % 4294967296 = Y0 at *
  generalize v / 4294967296 = v1 at *
  generalize v % 4294967296 = v0 at *
  generalize hi * 2 ^ s = h' at *
  generalize lo / 2 ^ (64 - s) = l' at *
  have hYY : Y = Y1 * 4294967296 + Y0 := by omega
  have hvv : v = v1 * 4294967296 + v0 := by omega
  have hY1 : 2147483648 ≤ Y1 := by omega
  have hY1l : Y1 < 4294967296 := by omega
  have hY0 : Y0 < 4294967296 := by omega
  have hv1 : v1 < 4294967296 := by omega
  have hv0 : v0 < 4294967296 := by omega
  have hYn : ¬ (Y1 : Int) = 0 := by omega
  have hYn' : ¬ Y1 = 0 := by omega
  have huq := Nat.div_add_mod u Y1
  have hqle : u / Y1 ≤ u := Nat.div_le_self _ _
  have g1 : IntKind.u64.wrap ((u : Int) / Y1) = (u / Y1 : Nat) := by rw [← Int.natCast_ediv]; generalize u / Y1 = q at *; exact wu64 (by omega) (by omega)
  have g2 : IntKind.u64.wrap (((u / Y1 : Nat) : Int) * Y1) = (u / Y1 * Y1 : Nat) := by
    rw [Nat.mul_comm] at huq
    rw [← Int.natCast_mul]; generalize u / Y1 * Y1 = q at *; exact wu64 (by omega) (by omega)
  have g3 : IntKind.u64.wrap ((u : Int) - (u / Y1 * Y1 : Nat)) = (u % Y1 : Nat) := by
    rw [Nat.mul_comm] at huq
    generalize u / Y1 * Y1 = q at *
    generalize u % Y1 = r at *
    rw [wu64 (by omega) (by omega)]; omega
  obtain ⟨q1, hq1⟩ : ∃ q1, q1 = (u * 4294967296 + v1) / Y := ⟨_, rfl⟩
  have gA : IntKind.u64.wrap ((u : Int) - IntKind.u64.wrap ((u : Int) / Y1 * Y1)) = (u : Int) % Y1 := by
    have h1 : ((u : Int) / Y1 * Y1) = ((u / Y1 : Nat) : Int) * Y1 := by rw [Int.natCast_ediv]
    rw [h1, g2, g3, Int.natCast_emod]
  refine G0 ?_; try with_reducible exact tt
  refine CallS.pu (hlead) (R1 (fs f1 (fs f2 (fs f3 (fs f4 (fs f5 (fs f6 (fs f7 (fs f8 (fs f9 (fs f10 (fs f11 (fs f12 (fs f13 (fs f14 (fs f15 (fs hYn (fs hYn' g1))))))))))))))))) ?_); try with_reducible exact tt
  refine AW.blockCut 0 [(15, .d (.int .u64 q1))] [] (by simp) (by simp) ?_ ?_
  · -- the half digit 15
    refine AW.loopT (α := Nat × Nat) 0 (fun a => [(15, .d (.int .u64 (a.1 : Int))), (16, .d (.int .u64 (a.2 : Int)))]) (fun _ => []) (fun a => hInv Y1 Y0 u v1 a.1 a.2) (fun a => a.1) (u / Y1, u % Y1) (by simp) (by simp) (hInv_first (by omega) (by omega) (by omega)) (by simp [gA]) (by simp) ?_
    rintro ⟨q, r⟩ ⟨i1, i2, i3⟩
    simp only at i1 i2 i3
    have hqY : q * 2147483648 ≤ q * Y1 := Nat.mul_le_mul_left _ hY1
    have hend : q * Y0 ≤ r * 4294967296 + v1 → q1 = q := fun h => by rw [hq1, hYY]; exact half_end i1 h i2
    have hnext : (4294967296 ≤ q ∨ r * 4294967296 + v1 < q * Y0) → 0 < q ∧ (q - 1) * Y1 + (r + Y1) = u ∧ u * 4294967296 + v1 < (q - 1 + 1) * (Y1 * 4294967296 + Y0) := fun h => half_next i1 (by omega) (by omega) h
    have hstep : ∀ (T : List V) , (4294967296 ≤ q ∨ r * 4294967296 + v1 < q * Y0) → 0 < q ∧ hInv Y1 Y0 u v1 (q - 1) (r + Y1) ∨ (0 < q ∧ 4294967296 ≤ r + Y1 ∧ q1 = q - 1) := fun _ h => by
      obtain ⟨n1, n2, n3⟩ := hnext h
      rcases Nat.lt_or_ge (r + Y1) 4294967296 with h1 | h1
      · exact .inl ⟨n1, n2, n3, h1⟩
      · refine .inr ⟨n1, h1, ?_⟩
        rw [hq1, hYY]
        exact half_end n2 (half_break n2 (by omega) hY0 h1 _) n3
    have b1 : IntKind.u64.wrap ((r : Int) + Y1) = ((r + Y1 : Nat) : Int) := wu64 (by omega) (by omega)
    have body : (4294967296 ≤ q ∨ r * 4294967296 + v1 < q * Y0) → IntKind.u64.wrap ((q : Int) - 1) = ((q - 1 : Nat) : Int) := fun h => by
      have := (hnext h).1
      rw [wu64 (by omega) (by omega)]; omega
    by_cases c1 : 4294967296 ≤ q
    · have c1' : (4294967296 : Int) ≤ q := by omega
      refine G1 c1' ?_; try with_reducible exact tt
      refine AW.cond rfl (fun h => ?_) (fun h => ?_)
      · have e1 := body (.inl c1)
        rcases hstep [] (.inl c1) with ⟨n1, n2⟩ | ⟨n1, n2, n3⟩
        · have n4 : ¬ (4294967296 : Int) ≤ ((r + Y1 : Nat) : Int) := by have := n2.2.2; omega
          generalize hr' : r + Y1 = r' at *
          generalize hq' : q - 1 = q' at *
          refine G1 (fs e1 (fs b1 n4)) ?_; try with_reducible exact tt
          refine AW.cond rfl (fun h => ?_) (fun h => ?_)
          · first | (simp [n4] at h; done) | (simp [n4] at h; omega)
          refine G0 ?_; try with_reducible exact tt
          exact ⟨q', r', n2, by omega, by simp, by simp⟩
        · have n4 : (4294967296 : Int) ≤ ((r + Y1 : Nat) : Int) := by omega
          generalize hr' : r + Y1 = r' at *
          generalize hq' : q - 1 = q' at *
          refine G1 (fs e1 (fs b1 n4)) ?_; try with_reducible exact tt
          refine AW.cond rfl (fun h => ?_) (fun h => ?_)
          · refine AW.exit ?_
            (try (simp -implicitDefEqProofs; try simp (disch := omega) only [w64, wu64]))
            rw [n3]
            exact Sub1.refl _
          · first | (simp at h; done) | (simp at h; omega)
      · simp [c1'] at h
    · have c1' : ¬ (4294967296 : Int) ≤ q := by omega
      have hqy : q * Y0 ≤ 4294967295 * 4294967295 := Nat.mul_le_mul (by omega) (by omega)
      have e1 : IntKind.u64.wrap ((q : Int) * Y0) = ((q * Y0 : Nat) : Int) := by rw [← Int.natCast_mul]; exact wu64 (by omega) (by omega)
      have e2 : IntKind.u64.wrap (4294967296 * (r : Int)) = ((4294967296 * r : Nat) : Int) := wu64 (by omega) (by omega)
      have e3 : IntKind.u64.wrap (((4294967296 * r : Nat) : Int) + v1) = ((4294967296 * r + v1 : Nat) : Int) := wu64 (by omega) (by omega)
      by_cases c2 : r * 4294967296 + v1 < q * Y0
      · have c2' : ((4294967296 * r + v1 : Nat) : Int) < ((q * Y0 : Nat) : Int) := by omega
        have e4 := body (.inr c2)
        have hs := hstep [] (.inr c2)
        clear hend hnext hstep body
        generalize q * Y0 = m at *
        generalize 4294967296 * r = m2 at *
        generalize m2 + v1 = m3 at *
        refine G1 (fs c1' (fs e1 (fs e2 (fs e3 c2')))) ?_; try with_reducible exact tt
        refine AW.cond rfl (fun h => ?_) (fun h => ?_)
        · rcases hs with ⟨n1, n2⟩ | ⟨n1, n2, n3⟩
          · have n4 : ¬ (4294967296 : Int) ≤ ((r + Y1 : Nat) : Int) := by have := n2.2.2; omega
            generalize hr' : r + Y1 = r' at *
            generalize hq' : q - 1 = q' at *
            refine G1 (fs e4 (fs b1 n4)) ?_; try with_reducible exact tt
            refine AW.cond rfl (fun h => ?_) (fun h => ?_)
            · first | (simp at h; done) | (simp at h; omega)
            refine G0 ?_; try with_reducible exact tt
            exact ⟨q', r', n2, by omega, by simp, by simp⟩
          · have n4 : (4294967296 : Int) ≤ ((r + Y1 : Nat) : Int) := by omega
            generalize hr' : r + Y1 = r' at *
            generalize hq' : q - 1 = q' at *
            refine G1 (fs e4 (fs b1 n4)) ?_; try with_reducible exact tt
            refine AW.cond rfl (fun h => ?_) (fun h => ?_)
            · refine AW.exit ?_
              (try (simp -implicitDefEqProofs; try simp (disch := omega) only [w64, wu64]))
              rw [n3]
              exact Sub1.refl _
            · first | (simp at h; done) | (simp at h; omega)
        · first | (simp at h; done) | (simp at h; omega)
      · have c2' : ¬ ((4294967296 * r + v1 : Nat) : Int) < ((q * Y0 : Nat) : Int) := by omega
        have e4 := hend (by omega)
        clear hend hnext hstep body
        generalize q * Y0 = m at *
        generalize 4294967296 * r = m2 at *
        generalize m2 + v1 = m3 at *
        refine G1 (fs c1' (fs e1 (fs e2 (fs e3 c2')))) ?_; try with_reducible exact tt
        refine AW.cond rfl (fun h => ?_) (fun h => ?_)
        · first | (simp at h; done) | (simp at h; omega)
        · refine AW.exit ?_
          (try (simp -implicitDefEqProofs; try simp (disch := omega) only [w64, wu64]))
          rw [e4]
          exact Sub1.refl _
  obtain ⟨r1, hr1⟩ : ∃ r1, r1 = u * 4294967296 + v1 - q1 * Y := ⟨_, rfl⟩
  have hd := Nat.div_add_mod (u * 4294967296 + v1) Y
  have hm := Nat.mod_lt (u * 4294967296 + v1) (show Y > 0 by omega)
  rw [← hq1, Nat.mul_comm] at hd
  have hr1l : r1 < Y := by omega
  have hq1l : q1 < 4294967296 := by
    rw [hq1, Nat.div_lt_iff_lt_mul (by omega)]
    omega
  have p1 : IntKind.u64.wrap ((u : Int) * 4294967296) = (u * 4294967296 % 18446744073709551616 : Nat) := by rw [IntKind.wrap_u64]; rfl
  have p2 : IntKind.u64.wrap (((u * 4294967296 % 18446744073709551616 : Nat) : Int) + v1) = ((u * 4294967296 + v1) % 18446744073709551616 : Nat) := by rw [IntKind.wrap_u64]; omega
  have p3 : IntKind.u64.wrap ((q1 : Int) * Y) = (q1 * Y % 18446744073709551616 : Nat) := by rw [IntKind.wrap_u64, ← Int.natCast_mul]; rfl
  have p4 : IntKind.u64.wrap (((((u * 4294967296 + v1) % 18446744073709551616 : Nat)) : Int) - (q1 * Y % 18446744073709551616 : Nat)) = (r1 : Int) := by
    rw [IntKind.wrap_u64]
    generalize q1 * Y = m at *
    omega
  have hrq := Nat.div_add_mod r1 Y1
  have hrle : r1 / Y1 ≤ r1 := Nat.div_le_self _ _
  have g1' : IntKind.u64.wrap ((r1 : Int) / Y1) = (r1 / Y1 : Nat) := by rw [← Int.natCast_ediv]; generalize r1 / Y1 = q at *; exact wu64 (by omega) (by omega)
  have g2' : IntKind.u64.wrap (((r1 / Y1 : Nat) : Int) * Y1) = (r1 / Y1 * Y1 : Nat) := by
    rw [Nat.mul_comm] at hrq
    rw [← Int.natCast_mul]; generalize r1 / Y1 * Y1 = q at *; exact wu64 (by omega) (by omega)
  have g3' : IntKind.u64.wrap ((r1 : Int) - (r1 / Y1 * Y1 : Nat)) = (r1 % Y1 : Nat) := by
    rw [Nat.mul_comm] at hrq
    generalize r1 / Y1 * Y1 = q at *
    generalize r1 % Y1 = r at *
    rw [wu64 (by omega) (by omega)]; omega
  have gA' : IntKind.u64.wrap ((r1 : Int) - IntKind.u64.wrap ((r1 : Int) / Y1 * Y1)) = (r1 : Int) % Y1 := by
    have h1 : ((r1 : Int) / Y1 * Y1) = ((r1 / Y1 : Nat) : Int) * Y1 := by rw [Int.natCast_ediv]
    rw [h1, g2', g3', Int.natCast_emod]
  have hp := halves' (y := Y) (a := u * 4294967296 + v1) (b := 4294967296) (v0 := v0) (q1 := q1) (q0 := (r1 * 4294967296 + v0) / Y) (by omega) hq1.symm (by rw [← hr1])
  rw [← hr1] at hp
  obtain ⟨q0, hq0⟩ : ∃ q0, q0 = (r1 * 4294967296 + v0) / Y := ⟨_, rfl⟩
  rw [← hq0] at hp
  rw [show u * 18446744073709551616 + v = (u * 4294967296 + v1) * 4294967296 + v0 by omega] at hQf hRf
  rw [hp.1] at hQf
  rw [hp.2] at hRf
  have hd0 := Nat.div_add_mod (r1 * 4294967296 + v0) Y
  have hm0 := Nat.mod_lt (r1 * 4294967296 + v0) (show Y > 0 by omega)
  rw [← hq0, Nat.mul_comm] at hd0
  obtain ⟨r0, hr0⟩ : ∃ r0, r0 = r1 * 4294967296 + v0 - q0 * Y := ⟨_, rfl⟩
  rw [← hr0] at hRf
  have hq0l : q0 < 4294967296 := by
    rw [hq0, Nat.div_lt_iff_lt_mul (by omega)]
    omega
  have s1 : IntKind.u64.wrap ((r1 : Int) * 4294967296) = (r1 * 4294967296 % 18446744073709551616 : Nat) := by rw [IntKind.wrap_u64]; rfl
  have s2 : IntKind.u64.wrap (((r1 * 4294967296 % 18446744073709551616 : Nat) : Int) + v0) = ((r1 * 4294967296 + v0) % 18446744073709551616 : Nat) := by rw [IntKind.wrap_u64]; omega
  have s3 : IntKind.u64.wrap ((q0 : Int) * Y) = (q0 * Y % 18446744073709551616 : Nat) := by rw [IntKind.wrap_u64, ← Int.natCast_mul]; rfl
  have s4 : IntKind.u64.wrap (((((r1 * 4294967296 + v0) % 18446744073709551616 : Nat)) : Int) - (q0 * Y % 18446744073709551616 : Nat)) = (r0 : Int) := by
    rw [IntKind.wrap_u64]
    generalize q0 * Y = m at *
    omega
  have s5 : IntKind.u64.wrap ((q1 : Int) * 4294967296) = (q1 * 4294967296 : Nat) := wu64 (by omega) (by omega)
  have s6 : IntKind.u64.wrap (((q1 * 4294967296 : Nat) : Int) + q0) = (q1 * 4294967296 + q0 : Nat) := wu64 (by omega) (by omega)
  have s7 : (r0 : Int) / 2 ^ s = (r0 / 2 ^ s : Nat) := by rw [Int.natCast_ediv, Int.natCast_pow]; rfl
  rw [← hRf] at s7
  rw [← hQf] at s6
  clear hp hd hm hr1 hq1 hr0 hd0 hm0 hRf hQf
  obtain ⟨t3, ht3⟩ : ∃ t, t = q1 * Y % 18446744073709551616 := ⟨_, rfl⟩
  rw [← ht3] at p3 p4
  obtain ⟨t2, ht2⟩ : ∃ t, t = (u * 4294967296 + v1) % 18446744073709551616 := ⟨_, rfl⟩
  rw [← ht2] at p2 p4
  obtain ⟨t1, ht1⟩ : ∃ t, t = u * 4294967296 % 18446744073709551616 := ⟨_, rfl⟩
  rw [← ht1] at p1 p2
  clear ht1 ht2 ht3
  simp
  repeat (first | refine AW.seq ?_ | refine AW.block ?_ | (refine AW.reg mix ?_; simp -implicitDefEqProofs [p1, p2, p3, p4, hYn, hYn', g1']; try simp (disch := omega) only [w64, wu64]) | (refine need.of (by first | omega | kernel_rfl) ?_) | (refine AW.fin ?_; try simp -implicitDefEqProofs [p1, p2, p3, p4, hYn, hYn', g1']))
  refine AW.blockCut 0 [(18, .d (.int .u64 q0))] [] (by simp) (by simp) ?_ ?_
  · -- the other half digit
    refine AW.loopT (α := Nat × Nat) 0 (fun a => [(18, .d (.int .u64 (a.1 : Int))), (16, .d (.int .u64 (a.2 : Int)))]) (fun _ => []) (fun a => hInv Y1 Y0 r1 v0 a.1 a.2) (fun a => a.1) (r1 / Y1, r1 % Y1) (by simp) (by simp) (hInv_first (by omega) (by omega) (by omega)) (by simp [gA']) (by simp) ?_
    rintro ⟨q, r⟩ ⟨i1, i2, i3⟩
    simp only at i1 i2 i3
    have hqY : q * 2147483648 ≤ q * Y1 := Nat.mul_le_mul_left _ hY1
    have hend : q * Y0 ≤ r * 4294967296 + v0 → q0 = q := fun h => by rw [hq0, hYY]; exact half_end i1 h i2
    have hnext : (4294967296 ≤ q ∨ r * 4294967296 + v0 < q * Y0) → 0 < q ∧ (q - 1) * Y1 + (r + Y1) = r1 ∧ r1 * 4294967296 + v0 < (q - 1 + 1) * (Y1 * 4294967296 + Y0) := fun h => half_next i1 (by omega) (by omega) h
    have hstep : ∀ (T : List V) , (4294967296 ≤ q ∨ r * 4294967296 + v0 < q * Y0) → 0 < q ∧ hInv Y1 Y0 r1 v0 (q - 1) (r + Y1) ∨ (0 < q ∧ 4294967296 ≤ r + Y1 ∧ q0 = q - 1) := fun _ h => by
      obtain ⟨n1, n2, n3⟩ := hnext h
      rcases Nat.lt_or_ge (r + Y1) 4294967296 with h1 | h1
      · exact .inl ⟨n1, n2, n3, h1⟩
      · refine .inr ⟨n1, h1, ?_⟩
        rw [hq0, hYY]
        exact half_end n2 (half_break n2 (by omega) hY0 h1 _) n3
    have b1 : IntKind.u64.wrap ((r : Int) + Y1) = ((r + Y1 : Nat) : Int) := wu64 (by omega) (by omega)
    have body : (4294967296 ≤ q ∨ r * 4294967296 + v0 < q * Y0) → IntKind.u64.wrap ((q : Int) - 1) = ((q - 1 : Nat) : Int) := fun h => by
      have := (hnext h).1
      rw [wu64 (by omega) (by omega)]; omega
    by_cases c1 : 4294967296 ≤ q
    · have c1' : (4294967296 : Int) ≤ q := by omega
      refine G1 c1' ?_; try with_reducible exact tt
      refine AW.cond rfl (fun h => ?_) (fun h => ?_)
      · have e1 := body (.inl c1)
        rcases hstep [] (.inl c1) with ⟨n1, n2⟩ | ⟨n1, n2, n3⟩
        · have n4 : ¬ (4294967296 : Int) ≤ ((r + Y1 : Nat) : Int) := by have := n2.2.2; omega
          generalize hr' : r + Y1 = r' at *
          generalize hq' : q - 1 = q' at *
          refine G1 (fs e1 (fs b1 n4)) ?_; try with_reducible exact tt
          refine AW.cond rfl (fun h => ?_) (fun h => ?_)
          · first | (simp [n4] at h; done) | (simp [n4] at h; omega)
          refine G0 ?_; try with_reducible exact tt
          exact ⟨q', r', n2, by omega, by simp, by simp⟩
        · have n4 : (4294967296 : Int) ≤ ((r + Y1 : Nat) : Int) := by omega
          generalize hr' : r + Y1 = r' at *
          generalize hq' : q - 1 = q' at *
          refine G1 (fs e1 (fs b1 n4)) ?_; try with_reducible exact tt
          refine AW.cond rfl (fun h => ?_) (fun h => ?_)
          · refine AW.exit ?_
            (try (simp -implicitDefEqProofs; try simp (disch := omega) only [w64, wu64]))
            rw [n3]
            exact Sub1.refl _
          · first | (simp at h; done) | (simp at h; omega)
      · simp [c1'] at h
    · have c1' : ¬ (4294967296 : Int) ≤ q := by omega
      have hqy : q * Y0 ≤ 4294967295 * 4294967295 := Nat.mul_le_mul (by omega) (by omega)
      have e1 : IntKind.u64.wrap ((q : Int) * Y0) = ((q * Y0 : Nat) : Int) := by rw [← Int.natCast_mul]; exact wu64 (by omega) (by omega)
      have e2 : IntKind.u64.wrap (4294967296 * (r : Int)) = ((4294967296 * r : Nat) : Int) := wu64 (by omega) (by omega)
      have e3 : IntKind.u64.wrap (((4294967296 * r : Nat) : Int) + v0) = ((4294967296 * r + v0 : Nat) : Int) := wu64 (by omega) (by omega)
      by_cases c2 : r * 4294967296 + v0 < q * Y0
      · have c2' : ((4294967296 * r + v0 : Nat) : Int) < ((q * Y0 : Nat) : Int) := by omega
        have e4 := body (.inr c2)
        have hs := hstep [] (.inr c2)
        clear hend hnext hstep body
        generalize q * Y0 = m at *
        generalize 4294967296 * r = m2 at *
        generalize m2 + v0 = m3 at *
        refine G1 (fs c1' (fs e1 (fs e2 (fs e3 c2')))) ?_; try with_reducible exact tt
        refine AW.cond rfl (fun h => ?_) (fun h => ?_)
        · rcases hs with ⟨n1, n2⟩ | ⟨n1, n2, n3⟩
          · have n4 : ¬ (4294967296 : Int) ≤ ((r + Y1 : Nat) : Int) := by have := n2.2.2; omega
            generalize hr' : r + Y1 = r' at *
            generalize hq' : q - 1 = q' at *
            refine G1 (fs e4 (fs b1 n4)) ?_; try with_reducible exact tt
            refine AW.cond rfl (fun h => ?_) (fun h => ?_)
            · first | (simp at h; done) | (simp at h; omega)
            refine G0 ?_; try with_reducible exact tt
            exact ⟨q', r', n2, by omega, by simp, by simp⟩
          · have n4 : (4294967296 : Int) ≤ ((r + Y1 : Nat) : Int) := by omega
            generalize hr' : r + Y1 = r' at *
            generalize hq' : q - 1 = q' at *
            refine G1 (fs e4 (fs b1 n4)) ?_; try with_reducible exact tt
            refine AW.cond rfl (fun h => ?_) (fun h => ?_)
            · refine AW.exit ?_
              (try (simp -implicitDefEqProofs; try simp (disch := omega) only [w64, wu64]))
              rw [n3]
              exact Sub1.refl _
            · first | (simp at h; done) | (simp at h; omega)
        · first | (simp at h; done) | (simp at h; omega)
      · have c2' : ¬ ((4294967296 * r + v0 : Nat) : Int) < ((q * Y0 : Nat) : Int) := by omega
        have e4 := hend (by omega)
        clear hend hnext hstep body
        generalize q * Y0 = m at *
        generalize 4294967296 * r = m2 at *
        generalize m2 + v0 = m3 at *
        refine G1 (fs c1' (fs e1 (fs e2 (fs e3 c2')))) ?_; try with_reducible exact tt
        refine AW.cond rfl (fun h => ?_) (fun h => ?_)
        · first | (simp at h; done) | (simp at h; omega)
        · refine AW.exit ?_
          (try (simp -implicitDefEqProofs; try simp (disch := omega) only [w64, wu64]))
          rw [e4]
          exact Sub1.refl _
  clear hq0
  obtain ⟨t6, ht6⟩ : ∃ t, t = q0 * Y % 18446744073709551616 := ⟨_, rfl⟩
  rw [← ht6] at s3 s4
  obtain ⟨t5, ht5⟩ : ∃ t, t = (r1 * 4294967296 + v0) % 18446744073709551616 := ⟨_, rfl⟩
  rw [← ht5] at s2 s4
  obtain ⟨t4, ht4⟩ : ∃ t, t = r1 * 4294967296 % 18446744073709551616 := ⟨_, rfl⟩
  rw [← ht4] at s1 s2
  obtain ⟨t7, ht7⟩ : ∃ t, t = q1 * 4294967296 := ⟨_, rfl⟩
  rw [← ht7] at s5 s6
  clear ht4 ht5 ht6 ht7
  simp
  refine G1 (fs s1 (fs s2 (fs s3 (fs s4 (fs s5 (fs s6 (fs s7 f13))))))) ?_; try with_reducible exact tt
end
end Go.Proofs.YtijbgbpjionfjaaGreatDoor.Am
namespace Go.Proofs.YtijbgbpjionfjaaGreatDoor.Am
section
open Go.RowKit
theorem wval_set : ∀ (ws : List Nat) (j v : Nat), j < ws.length → wval (ws.set j v) + 18446744073709551616 ^ j * ws.getD j 0 = wval ws + 18446744073709551616 ^ j * v
  | [], j, v, h => by simp at h
  | x :: l, 0, v, h => by simp [wval]; omega
  | x :: l, j + 1, v, h => by
    have ih := wval_set l j v (by simpa using h)
    simp only [List.set_cons_succ, wval, Nat.pow_succ, List.getD_cons_succ]
    have e : ∀ z, 18446744073709551616 ^ j * 18446744073709551616 * z = 18446744073709551616 * (18446744073709551616 ^ j * z) := fun z => by
      rw [Nat.mul_right_comm, Nat.mul_comm]
    rw [e, e]
    omega
theorem small_set {ws : List Nat} (h : small ws) (j v : Nat) (hv : v < 18446744073709551616) : small (ws.set j v) := by
  intro x hx
  rcases List.mem_or_eq_of_mem_set hx with hx | rfl
  · exact h x hx
  · exact hv
/-- the words of a row, as an own thing -/
def uW (ws : List Nat) : List V := U ws
theorem uW_length (ws : List Nat) : (uW ws).length = ws.length := by simp [uW, U]
theorem uW_get {ws : List Nat} {j : Nat} (h : j < ws.length) : (uW ws)[j]? = some (.d (.int .u64 (ws.getD j 0 : Nat))) := by
  simp [uW, U, List.getD, h]
theorem uW_set (ws : List Nat) (j v : Nat) : (uW ws).set j (.d (.int .u64 v)) = uW (ws.set j v) := by simp [uW, U, List.map_set]
theorem uW_low (n : Nat) (ws : List Nat) : V.lowl n (uW ws) = true := lowl_U n ws

theorem mul_fin {vn v z1 z2 p b xy o c l2 h2 : Nat} (hs2 : vn + p * o = v + p * l2) (hv : v + p * c = z2 + z1) (htot : xy + o + c = l2 + b * h2) : vn + p * b * h2 = z2 + (z1 + p * xy) := by
  have e2 := congrArg (p * ·) htot
  simp only [Nat.mul_add] at e2
  rw [← Nat.mul_assoc] at e2
  omega
set_option maxHeartbeats 4000000 in
theorem mul_ok (m n : Nat) (hm : size m ≤ 1000000) (hn : size n ≤ 1000000) : Eqn Tryz.prog n_nat_Mul [.d (.agg [natW m]), .d (.agg [natW n])] [] (.d (.agg [natW (m * n)])) [] := by
  refine Eqn.pure r_nat_Mul (plain_d _) ?_
  unfold size at hm hn
  rw [← words_val m, ← words_val n]
  have hsA := words_small m
  have hsB := words_small n
  rw [show natW (wval (words m)) = W (words m) by rw [words_val]; rfl, show natW (wval (words n)) = W (words n) by rw [words_val]; rfl]
  generalize words m = A at *
  generalize words n = B at *
  simp only [c_nat_Mul, W]
  have hlen : ((A.length : Int) + B.length).toNat = A.length + B.length := by omega
  refine G1 hlen ?_; try with_reducible exact tt
  rw [show List.replicate (A.length + B.length) (V.d (.int .u64 0)) = uW (List.replicate (A.length + B.length) 0) by simp [uW, U]]
  refine AW.loopT (α := Nat × List Nat) 4 (fun s => [(25, .d (.int .i64 (s.1 : Int)))]) (fun s => [(3, ⟨28, uW s.2⟩)]) (fun s => s.1 ≤ A.length ∧ s.2.length = A.length + B.length ∧ small s.2 ∧ wval s.2 = wval (A.take s.1) * wval B ∧ ∀ j, s.1 + B.length ≤ j → s.2.getD j 0 = 0) (fun s => A.length - s.1) (0, List.replicate (A.length + B.length) 0) ?_ ?_ ?_ ?_ ?_ ?_
  · simp
  · simp
  · refine ⟨Nat.zero_le _, by simp, fun x hx => by rw [List.eq_of_mem_replicate hx]; omega, by simp [wval_zeros, wval], fun j _ => ?_⟩
    simp [List.getD, List.getElem?_replicate]
    split <;> rfl
  · simp
  · simp [uW_low]
  rintro ⟨i, ws⟩ ⟨hi, hl, hs, hv, hz⟩
  simp only at hi hl hs hv hz
  simp
  by_cases h : i = A.length
  · subst h
    rw [List.take_length] at hv
    refine G0 ?_; try with_reducible exact tt
    refine AW.cond rfl (fun h => ?_) (fun h => ?_)
    · simp at h
    refine AW.exit ?_
    (try (simp -implicitDefEqProofs; try simp (disch := omega) only [w64, wu64]))
    have hcell : uW ws = (ws.map fun x : Nat => D.int .u64 x).map V.d := by simp [uW, U]
    rw [hcell]
    refine AW.freeze 3 1 ⟨28, _⟩ (ws.map fun x : Nat => .int .u64 x) (by rfl) (by rfl) ?_
    simp [← hl, List.take_of_length_le]
    refine G0 ?_; try with_reducible exact tt
    refine CallS.pu (trimmed_ok ws hs (by omega)) (R0 ?_); try with_reducible exact tt
    refine Sub1.of ?_
    rw [hv]
  · have hi' : i < A.length := by omega
    have hp : (i : Int) < A.length := by omega
    refine G1 (fs hi' hp) ?_; try with_reducible exact tt
    refine AW.cond rfl (fun h => ?_) (fun h => ?_)
    · refine G1 (fs hi' hp) ?_; try with_reducible exact tt
      have hwA : A[i] = A.getD i 0 := W_get hi'
      have hx : A[i] < 18446744073709551616 := hsA _ (List.getElem_mem _)
      generalize A[i] = x at hwA hx ⊢
      refine AW.loopT (α := Nat × Nat × List Nat) 4 (fun s => [(33, .d (.int .i64 (s.1 : Int))), (8, .d (.int .u64 (s.2.1 : Int)))]) (fun s => [(3, ⟨28, uW s.2.2⟩)]) (fun s => s.1 ≤ B.length ∧ s.2.1 < 18446744073709551616 ∧ s.2.2.length = A.length + B.length ∧ small s.2.2 ∧ wval s.2.2 + 18446744073709551616 ^ (i + s.1) * s.2.1 = wval (A.take i) * wval B + 18446744073709551616 ^ i * (x * wval (B.take s.1)) ∧ ∀ j, i + B.length ≤ j → s.2.2.getD j 0 = 0) (fun s => B.length - s.1) (0, 0, ws) ?_ ?_ ⟨Nat.zero_le _, by simp, hl, hs, by simp [hv, wval], hz⟩ ?_ ?_ ?_
      · simp
      · simp
      · simp
      · simp [uW_low]
      clear hl hs hv hz
      rintro ⟨k, c, ws'⟩ ⟨hk, hc, hl, hs, hv, hz⟩
      simp only at hk hc hl hs hv hz
      simp
      have hlen' : ((i : Int) + B.length).toNat = i + B.length := by omega
      have ew : IntKind.i64.wrap ((i : Int) + B.length) = ((i + B.length : Nat) : Int) := w64 (by omega) (by omega)
      have eu := uW_length ws'
      have eset := fun j v => uW_set ws' j v
      by_cases hkl : k = B.length
      · subst hkl
        rw [List.take_length] at hv
        refine G0 ?_; try with_reducible exact tt
        refine AW.cond rfl (fun h => ?_) (fun h => ?_)
        · simp at h
        have hg : (uW ws').length = A.length + B.length := by rw [eu]; exact hl
        have e2 : IntKind.i64.wrap ((i : Int) + 1) = (i : Int) + 1 := w64 (by omega) (by omega)
        refine G1 (fs hg (fs eset e2)) ?_; try with_reducible exact tt
        refine ⟨i + 1, ws'.set (i + B.length) c, ⟨hi', by simp [hl], small_set hs _ _ hc, ?_, fun j hj => ?_⟩, by omega, by simp, by rw [hlen']; simp, uW_low _ _⟩
        · have h1 := wval_set ws' (i + B.length) c (by omega)
          rw [hz _ (Nat.le_refl _), Nat.mul_zero, Nat.add_zero] at h1
          rw [h1, hv, wval_take, Nat.add_mul, hwA, Nat.mul_assoc]
        · have h1 := hz j (by omega)
          rw [List.getD] at h1
          rw [List.getElem?_set_ne (by omega)]
          exact h1
      · have hk' : k < B.length := by omega
        have hkp : (k : Int) < B.length := by omega
        refine G1 (fs hk' hkp) ?_; try with_reducible exact tt
        refine AW.cond rfl (fun h => ?_) (fun h => ?_)
        · have hy : B[k] < 18446744073709551616 := hsB _ (List.getElem_mem _)
          have hwB : B[k] = B.getD k 0 := W_get hk'
          have hg : (uW ws').length = A.length + B.length := by rw [eu]; exact hl
          have hik : i + k < ws'.length := by omega
          have hik2 : ((i : Int) + k).toNat = i + k := by omega
          have ewk : IntKind.i64.wrap ((i : Int) + k) = (i : Int) + k := w64 (by omega) (by omega)
          have hgo := uW_get hik
          have ho := hs.getD (i + k)
          have hset := fun v => wval_set ws' (i + k) v hik
          generalize hO : ws'.getD (i + k) 0 = o at hgo ho hset
          have e2 : IntKind.i64.wrap ((k : Int) + 1) = (k : Int) + 1 := w64 (by omega) (by omega)
          refine G1 (fs hk' hkp) ?_; try with_reducible exact tt
          generalize B[k] = y at hy hwB ⊢
          have hmul := mul64_ok x y hx hy
          have l0 : x * y % 18446744073709551616 < 18446744073709551616 := Nat.mod_lt _ (by decide)
          have hxy : x * y ≤ 18446744073709551615 * 18446744073709551615 := Nat.mul_le_mul (by omega) (by omega)
          have hdm := Nat.div_add_mod (x * y) 18446744073709551616
          obtain ⟨hi', hhi⟩ : ∃ q, q = x * y / 18446744073709551616 := ⟨_, rfl⟩
          obtain ⟨lo, hlo⟩ : ∃ q, q = x * y % 18446744073709551616 := ⟨_, rfl⟩
          obtain ⟨xy, hxyd⟩ : ∃ q, q = x * y := ⟨_, rfl⟩
          rw [← hhi, ← hlo] at hmul
          rw [← hlo] at l0
          rw [← hhi, ← hlo, ← hxyd] at hdm
          rw [← hxyd] at hxy
          obtain ⟨l1, k1, hl1, hll1, hk1⟩ : ∃ l1 k1 : Nat, lo + o + 0 = l1 + 18446744073709551616 * k1 ∧ l1 < 18446744073709551616 ∧ k1 ≤ 1 := ⟨(lo + o) % 18446744073709551616, (lo + o) / 18446744073709551616, by omega, by omega, by omega⟩
          obtain ⟨l2, k2, hl2, hll2, hk2⟩ : ∃ l2 k2 : Nat, l1 + c + 0 = l2 + 18446744073709551616 * k2 ∧ l2 < 18446744073709551616 ∧ k2 ≤ 1 := ⟨(l1 + c) % 18446744073709551616, (l1 + c) / 18446744073709551616, by omega, by omega, by omega⟩
          have htot : xy + o + c = l2 + 18446744073709551616 * (hi' + k1 + k2) := by omega
          have hhl : hi' + k1 + k2 < 18446744073709551616 := by omega
          have w1 : IntKind.u64.wrap ((hi' : Int) + k1) = ((hi' + k1 : Nat) : Int) := wu64 (by omega) (by omega)
          have w2 : IntKind.u64.wrap (((hi' + k1 : Nat) : Int) + k2) = ((hi' + k1 + k2 : Nat) : Int) := wu64 (by omega) (by omega)
          clear hhi hlo
          refine CallS.pu (hmul) (R1 (fs hg (fs hgo (fs hik2 ewk))) ?_); try with_reducible exact tt
          generalize hi' + k1 = h1 at *
          generalize h1 + k2 = h2 at *
          refine CallS.pu (add64_ok lo o 0 l1 k1 l0 ho (by omega) hll1 hl1) (R1 w1 ?_); try with_reducible exact tt
          refine CallS.pu (add64_ok l1 c 0 l2 k2 hll1 hc (by omega) hll2 hl2) (R1 (fs w2 (fs hg (fs hik2 (fs ewk (fs eset e2))))) ?_); try with_reducible exact tt
          refine ⟨k + 1, h2, ws'.set (i + k) l2, ⟨hk', hhl, by simpa using hl, small_set hs _ _ hll2, ?_, fun j hj => ?_⟩, by omega, by simp, Subs.refl _, uW_low _ _⟩
          · have hs2 := hset l2
            have e1 : x * wval (B.take (k + 1)) = x * wval (B.take k) + 18446744073709551616 ^ k * xy := by
              rw [wval_take, ← hwB, Nat.mul_add, hxyd]
              congr 1
              rw [← Nat.mul_assoc, Nat.mul_comm x, Nat.mul_assoc]
            rw [e1, Nat.mul_add, ← Nat.mul_assoc (18446744073709551616 ^ i) (18446744073709551616 ^ k) xy, ← Nat.pow_add, ← Nat.add_assoc i k 1, Nat.pow_succ]
            exact mul_fin hs2 hv htot
          · have h1 := hz j hj
            rw [← List.getD_eq_getElem?_getD]
            rw [List.getD] at h1 ⊢
            rw [List.getElem?_set_ne (by omega)]
            exact h1
        · simp [hk'] at h
    · simp [hi'] at h
end
end Go.Proofs.YtijbgbpjionfjaaGreatDoor.Am
namespace Go.Proofs.YtijbgbpjionfjaaGreatDoor.Am
section
open Go.RowKit
theorem size_pow' {x n m : Nat} (h : x < 2 ^ n) (hm : n ≤ 64 * m) : size x ≤ m := by
  apply words_le (words_top x)
  rw [words_val, show (18446744073709551616 : Nat) = 2 ^ 64 by rfl, ← Nat.pow_mul]
  exact Nat.lt_of_lt_of_le h (Nat.pow_le_pow_right (by omega) hm)
/-- words by a word: the quotient's words, the rest -/
def splitW (y : Nat) : List Nat → List Nat × Nat
  | [] => ([], 0)
  | x :: l => (((splitW y l).2 * 18446744073709551616 + x) / y :: (splitW y l).1, ((splitW y l).2 * 18446744073709551616 + x) % y)
theorem splitW_ok {y : Nat} (h0 : 0 < y) : ∀ {l : List Nat}, small l → wval l = wval (splitW y l).1 * y + (splitW y l).2 ∧ (splitW y l).2 < y ∧ small (splitW y l).1 ∧ (splitW y l).1.length = l.length
  | [], _ => ⟨by simp [splitW, wval], h0, by simp [small, splitW], rfl⟩
  | x :: l, h => by
    have hx := h x (by simp)
    obtain ⟨h1, h2, h3, h4⟩ := splitW_ok h0 (l := l) (fun z hz => h z (by simp [hz]))
    simp only [splitW, wval, List.length_cons, h4]
    generalize splitW y l = s at *
    obtain ⟨Q, r⟩ := s
    simp only at *
    have hd := Nat.div_add_mod (r * 18446744073709551616 + x) y
    have hm := Nat.mod_lt (r * 18446744073709551616 + x) h0
    have hq : (r * 18446744073709551616 + x) / y < 18446744073709551616 := by
      rw [Nat.div_lt_iff_lt_mul h0]
      have : (r + 1) * 18446744073709551616 ≤ y * 18446744073709551616 := Nat.mul_le_mul_right _ h2
      omega
    refine ⟨?_, hm, ?_, trivial⟩
    · rw [Nat.mul_comm y] at hd
      have e : 18446744073709551616 * (wval Q * y + r) = 18446744073709551616 * wval Q * y + r * 18446744073709551616 := by rw [Nat.mul_add, Nat.mul_assoc, Nat.mul_comm r]
      rw [h1, e, Nat.add_mul]
      obtain ⟨z, hz⟩ : ∃ z, z = (r * 18446744073709551616 + x) % y := ⟨_, rfl⟩
      obtain ⟨z2, hz2⟩ : ∃ z, z = (r * 18446744073709551616 + x) / y * y := ⟨_, rfl⟩
      obtain ⟨z3, hz3⟩ : ∃ z, z = 18446744073709551616 * wval Q * y := ⟨_, rfl⟩
      rw [← hz, ← hz2] at hd
      rw [← hz, ← hz2, ← hz3]
      omega
    · intro z hz
      rcases List.mem_cons.1 hz with rfl | hz
      · exact hq
      · exact h3 z hz

theorem splitW_div {y : Nat} (h0 : 0 < y) {l : List Nat} (h : small l) : wval (splitW y l).1 = wval l / y ∧ (splitW y l).2 = wval l % y := by
  obtain ⟨h1, h2, _, _⟩ := splitW_ok h0 h
  rw [h1]
  constructor
  · rw [Nat.mul_comm, Nat.mul_add_div h0, Nat.div_eq_of_lt h2, Nat.add_zero]
  · rw [Nat.mul_comm, Nat.mul_add_mod]; exact (Nat.mod_eq_of_lt h2).symm

def splitC (y : Nat) (ws : List Nat) (k : Nat) : List V := U (List.replicate k 0 ++ (splitW y (ws.drop k)).1)
theorem splitC_len {y : Nat} (h0 : 0 < y) {ws : List Nat} (hs : small ws) {k : Nat} (hk : k ≤ ws.length) : (splitC y ws k).length = ws.length := by
  have := (splitW_ok h0 (l := ws.drop k) (fun x hx => hs x (List.mem_of_mem_drop hx))).2.2.2
  simp [splitC, U, this]; omega

set_option maxHeartbeats 2000000 in
theorem split_ok (ws : List Nat) (y : Nat) (hs : small ws) (hn : ws.length ≤ 1000000) (h0 : 0 < y) (hy : y < 18446744073709551616) : Eqn Tryz.prog n_nat_split [.d (W ws), .d (.int .u64 y)] [] (.tup [.d (W (splitW y ws).1), .d (.int .u64 (splitW y ws).2)]) [] := by
  refine Eqn.pure r_nat_split (plain_tup2 _ _) ?_
  simp only [c_nat_split, W]
  have hlen := (splitW_ok h0 hs).2.2.2
  rw [hlen]
  have hlowC : ∀ k, V.lowl 1 (splitC y ws k) = true := fun k => lowl_U 1 _
  refine G0 ?_; try with_reducible exact tt
  rw [show List.replicate ws.length (V.d (.int .u64 0)) = splitC y ws ws.length by simp [splitC, U, splitW]]
  refine AW.loopT (α := Nat) 1 (fun k => [(8, .d (.int .i64 ((k : Int) - 1))), (7, .d (.int .u64 ((splitW y (ws.drop k)).2 : Nat)))]) (fun k => [(0, ⟨28, splitC y ws k⟩)]) (fun k => k ≤ ws.length) (fun k => k) ws.length ?_ ?_ (Nat.le_refl _) ?_ ?_ ?_
  · simp
  · simp
  · simp [splitW]
  · simp [hlowC]
  rintro k hk
  simp
  cases k with
  | zero =>
    refine G0 ?_; try with_reducible exact tt
    refine AW.cond rfl (fun h => ?_) (fun h => ?_)
    · simp at h
    refine AW.exit ?_
    (try (simp -implicitDefEqProofs; try simp (disch := omega) only [w64, wu64]))
    rw [show splitC y ws 0 = ((splitW y ws).1.map fun x : Nat => D.int .u64 x).map V.d by simp [splitC, U]]
    refine AW.freeze 0 1 ⟨28, _⟩ ((splitW y ws).1.map fun x : Nat => .int .u64 x) (by rfl) (by rfl) ?_
    simp [← hlen, List.take_of_length_le]
    refine G0 ?_; try with_reducible exact tt
  | succ k =>
    have hk' : k < ws.length := hk
    have hdrop : ws.drop k = ws[k] :: ws.drop (k + 1) := List.drop_eq_getElem_cons hk'
    obtain ⟨i1, i2, i3, i4⟩ := splitW_ok h0 (l := ws.drop (k + 1)) (fun x hx => hs x (List.mem_of_mem_drop hx))
    have hl := splitC_len h0 hs hk
    have hset : (splitC y ws (k + 1)).set k (.d (.int .u64 (((splitW y (ws.drop (k + 1))).2 * 18446744073709551616 + ws[k]) / y : Nat))) = splitC y ws k := by
      rw [splitC, splitC, hdrop, splitW, U, U, List.replicate_succ', List.append_assoc, List.map_append, List.map_append, List.set_append_right _ _ (by simp)]
      simp
    have hrest : (splitW y (ws.drop k)).2 = ((splitW y (ws.drop (k + 1))).2 * 18446744073709551616 + ws[k]) % y := by rw [hdrop, splitW]
    have hx : ws[k] < 18446744073709551616 := hs _ (List.getElem_mem _)
    have hdv := div64_ok (splitW y (ws.drop (k + 1))).2 ws[k] y i2 hx hy
    rw [← hrest] at hdv
    generalize (splitW y (ws.drop (k + 1))).2 = r at *
    have e0 : (0 : Int) ≤ (k : Int) + 1 - 1 := by omega
    have e1 : (k : Int) + 1 - 1 = k := by omega
    have e2 : (((k : Int) + 1 - 1)).toNat = k := by omega
    have e3 : IntKind.i64.wrap ((k : Int) - 1) = (k : Int) - 1 := w64 (by omega) (by omega)
    generalize hxk : ws[k] = x at *
    generalize hqd : (r * 18446744073709551616 + x) / y = q at *
    generalize hr'' : (splitW y (ws.drop k)).2 = r' at *
    refine G1 (fs e0 (fs e1 (fs e2 hk'))) ?_; try with_reducible exact tt
    refine AW.cond rfl (fun h => ?_) (fun h => ?_)
    · refine G1 (fs e0 (fs e1 (fs e2 (fs hk' hxk)))) ?_; try with_reducible exact tt
      refine CallS.pu (hdv) (R1 (fs e1 (fs hl (fs hk' (fs hset e3)))) ?_); try with_reducible exact tt
      refine ⟨k, by omega, by omega, ?_⟩
      rw [hr'']
      simp [hlowC]
    · simp at h

/-- a quotient by what is one word, or more than what is divided -/
theorem divmod_ok (a b : Nat) (ha : size a ≤ 1000000) (h0 : 0 < b) (hb : b < 18446744073709551616 ∨ a < b) (hbs : size b ≤ 1000000) : Eqn Tryz.prog n_nat_DivMod [.d (.agg [natW a]), .d (.agg [natW b])] [] (.tup [.d (.agg [natW (a / b)]), .d (.agg [natW (a % b)]), .d (.int .i64 0)]) [] := by
  refine Eqn.pure r_nat_DivMod (plain_tup3 _ _ _) ?_
  simp only [c_nat_DivMod]
  refine G0 ?_; try with_reducible exact tt
  refine CallS.pu (zero_ok b) (R0 ?_); try with_reducible exact tt
  have hz : (b == 0) = false := by simp; omega
  refine AW.cond rfl (fun h => ?_) (fun h => ?_)
  · simp [hz] at h
  refine G0 ?_; try with_reducible exact tt
  refine CallS.pu (cmp_ok a b ha hbs) (R0 ?_); try with_reducible exact tt
  refine AW.cond rfl (fun h => ?_) (fun h => ?_)
  · have hlt : a < b := by simpa [cmpZ_lt] using h
    rw [Nat.div_eq_of_lt hlt, Nat.mod_eq_of_lt hlt]
    refine G0 ?_; try with_reducible exact tt
    refine CallS.pu (of_ok (words a) (words_small a) (by unfold size at ha; omega)) (R0 ?_); try with_reducible exact tt
    rw [words_val]
    exact Sub1.tup (Subs.cons (Sub1.nat0) (Subs.refl _))
  · have hge : ¬ a < b := fun hlt => by simp [cmpZ_lt, hlt] at h
    have hb1 : b < 18446744073709551616 := by omega
    have e' : natW b = .sl 1 [.int .u64 b] := by rw [natW, words_one (by omega) hb1]; rfl
    have hsp := split_ok (words a) b (words_small a) (by unfold size at ha; omega) h0 hb1
    obtain ⟨q1, q2, q3, q4⟩ := splitW_ok h0 (words_small a)
    have hd := splitW_div h0 (words_small a)
    rw [words_val] at hd
    have htr := trimmed_ok (splitW b (words a)).1 q3 (by unfold size at ha; omega)
    rw [hd.1] at htr
    rw [hd.2] at hsp q2
    rw [show W (words a) = natW a from rfl] at hsp
    generalize (splitW b (words a)).1 = qs at *
    refine G1 e' ?_; try with_reducible exact tt
    refine AW.cond rfl (fun h => ?_) (fun h => ?_)
    · refine G1 e' ?_; try with_reducible exact tt
      refine CallS.pu (hsp) (R0 ?_); try with_reducible exact tt
      refine CallS.pu (htr) (R0 ?_); try with_reducible exact tt
      refine CallS.pf 4 1 ⟨28, _⟩ [.int .u64 (a % b : Nat)] (of_ok [a % b] (small_one (by omega)) (by simp)) (by first | rfl | (simp; done)) (R0 ?_); try with_reducible exact tt
      simp [wval]
    · simp [e'] at h

theorem size_two (k : Nat) (hk : k ≤ 8192) : size (2 ^ k) ≤ 129 := size_pow' (n := k + 1) (Nat.pow_lt_pow_right (by omega) (Nat.lt_succ_self _)) (by omega)
end
end Go.Proofs.YtijbgbpjionfjaaGreatDoor.Am
namespace Go.Proofs.YtijbgbpjionfjaaGreatDoor.Am
section
/-- so many words of a number -/
def wordsN : Nat → Nat → List Nat
  | 0, _ => []
  | m + 1, x => x % 18446744073709551616 :: wordsN m (x / 18446744073709551616)
theorem wordsN_len : ∀ m x, (wordsN m x).length = m
  | 0, _ => rfl
  | m + 1, x => by simp [wordsN, wordsN_len m]
theorem wordsN_small : ∀ m x, small (wordsN m x)
  | 0, _ => by simp [wordsN, small]
  | m + 1, x => by
    intro y hy
    rw [wordsN, List.mem_cons] at hy
    rcases hy with rfl | hy
    · omega
    · exact wordsN_small m _ y hy
theorem wordsN_val : ∀ m x, x < 18446744073709551616 ^ m → wval (wordsN m x) = x
  | 0, x, h => by simp at h; simp [wordsN, wval, h]
  | m + 1, x, h => by
    rw [wordsN, wval, wordsN_val m _ (by rw [Nat.pow_succ] at h; rw [Nat.div_lt_iff_lt_mul (by decide)]; exact h)]
    omega
theorem wordsN_of : ∀ {l : List Nat}, small l → wordsN l.length (wval l) = l
  | [], _ => rfl
  | x :: l, h => by
    have hx := h x (by simp)
    have hl : small l := fun y hy => h y (by simp [hy])
    rw [List.length_cons, wordsN, wval]
    congr 1
    · omega
    · rw [show (x + 18446744073709551616 * wval l) / 18446744073709551616 = wval l by omega]; exact wordsN_of hl
theorem wordsN_eq {l : List Nat} {m x : Nat} (h : small l) (hl : l.length = m) (hv : wval l = x) : l = wordsN m x := by rw [← hl, ← hv, wordsN_of h]

/-- words written over others -/
def ovr (ws : List Nat) (k : Nat) (l : List Nat) : List Nat := ws.take k ++ (l ++ ws.drop (k + l.length))
theorem ovr_len {ws : List Nat} {k : Nat} {l : List Nat} (h : k + l.length ≤ ws.length) : (ovr ws k l).length = ws.length := by simp [ovr]; omega
theorem ovr_small {ws : List Nat} {k : Nat} {l : List Nat} (h : small ws) (hl : small l) : small (ovr ws k l) := by
  intro x hx
  simp only [ovr, List.mem_append] at hx
  rcases hx with hx | hx | hx
  · exact h x (List.mem_of_mem_take hx)
  · exact hl x hx
  · exact h x (List.mem_of_mem_drop hx)
theorem ovr_nil (ws : List Nat) (k : Nat) : ovr ws k [] = ws := by simp [ovr]
theorem ovr_next {ws : List Nat} {k : Nat} {l : List Nat} (h : k + l.length < ws.length) : (ovr ws k l).getD (k + l.length) 0 = ws.getD (k + l.length) 0 := by
  simp only [ovr, List.getD_eq_getElem?_getD]
  congr 1
  rw [List.getElem?_append_right (by rw [List.length_take]; omega), List.length_take, Nat.min_eq_left (by omega), List.getElem?_append_right (by omega), List.getElem?_drop]
  congr 1; omega
theorem ovr_set {ws : List Nat} {k : Nat} {l : List Nat} (h : k + l.length < ws.length) (v : Nat) : (ovr ws k l).set (k + l.length) v = ovr ws k (l ++ [v]) := by
  have e : ws.drop (k + l.length) = ws.getD (k + l.length) 0 :: ws.drop (k + (l.length + 1)) := by
    rw [List.getD_eq_getElem?_getD, List.getElem?_eq_getElem h, Option.getD_some, ← Nat.add_assoc]
    exact List.drop_eq_getElem_cons h
  simp only [ovr]
  rw [List.set_append_right _ _ (by rw [List.length_take]; omega), List.length_take, Nat.min_eq_left (by omega), show k + l.length - k = l.length by omega, List.set_append_right _ _ (by omega), Nat.sub_self, e]
  simp
theorem ovr_ovr {ws : List Nat} {k : Nat} {l r : List Nat} (h : k + l.length ≤ ws.length) (hl : l.length ≤ r.length) : ovr (ovr ws k l) k r = ovr ws k r := by
  simp only [ovr]
  have h1 : (ws.take k).length = k := by rw [List.length_take]; omega
  rw [List.take_append_of_le_length (by omega), List.take_of_length_le (by omega)]
  congr 2
  rw [List.drop_append, List.drop_eq_nil_of_le (by omega), List.nil_append, h1, List.drop_append, List.drop_eq_nil_of_le (by omega), List.nil_append, List.drop_drop]
  congr 1; omega
theorem ovr_seg {ws : List Nat} {k : Nat} {l : List Nat} (h : k + l.length ≤ ws.length) : ((ovr ws k l).drop k).take l.length = l := by
  have h1 : (ws.take k).length = k := by rw [List.length_take]; omega
  simp only [ovr]
  rw [List.drop_append, List.drop_eq_nil_of_le (by omega), List.nil_append, h1, Nat.sub_self, List.drop_zero, List.take_append_of_le_length (by omega), List.take_of_length_le (by omega)]
theorem segN_get {ws : List Nat} {k n i : Nat} (h : i < n) : ((ws.drop k).take n).getD i 0 = ws.getD (k + i) 0 := by
  simp only [List.getD_eq_getElem?_getD, List.getElem?_take, if_pos h, List.getElem?_drop]
theorem segN_len {ws : List Nat} {k n : Nat} (h : k + n ≤ ws.length) : ((ws.drop k).take n).length = n := by simp; omega
theorem small_drop {ws : List Nat} (h : small ws) (k : Nat) : small (ws.drop k) := fun x hx => h x (List.mem_of_mem_drop hx)
theorem small_snoc {l : List Nat} (h : small l) {v : Nat} (hv : v < 18446744073709551616) : small (l ++ [v]) := by
  intro x hx
  rw [List.mem_append, List.mem_singleton] at hx
  rcases hx with hx | rfl
  · exact h x hx
  · exact hv
theorem wval_snoc (l : List Nat) (v : Nat) : wval (l ++ [v]) = wval l + 18446744073709551616 ^ l.length * v := by
  rw [wval_append]; simp [wval]
theorem small_nilN : small [] := by simp [small]

/-- a round of a product that is taken away -/
theorem take_round {l0 g D0 U0 p bo c x y lo hi l2 k2 nb z : Nat} (hv : l0 + g * D0 = U0 + p * (bo + c)) (hyg : y * g = hi * 18446744073709551616 + lo) (h1 : lo + c = l2 + 18446744073709551616 * k2) (h2 : x + 18446744073709551616 * nb = z + l2 + bo) :
    l0 + p * z + g * (D0 + p * y) = U0 + p * x + p * 18446744073709551616 * (nb + (hi + k2)) := by
  have e1 : p * x + 18446744073709551616 * (p * nb) = p * z + p * l2 + p * bo := by
    have := congrArg (p * ·) h2
    simp only [Nat.mul_add] at this
    rw [← Nat.mul_assoc, Nat.mul_comm p 18446744073709551616, Nat.mul_assoc] at this
    exact this
  have e2 : p * lo + p * c = p * l2 + 18446744073709551616 * (p * k2) := by
    have := congrArg (p * ·) h1
    simp only [Nat.mul_add] at this
    rw [← Nat.mul_assoc p 18446744073709551616, Nat.mul_comm p 18446744073709551616, Nat.mul_assoc 18446744073709551616] at this
    exact this
  have e3 : g * (p * y) = 18446744073709551616 * (p * hi) + p * lo := by
    have := congrArg (p * ·) hyg
    simp only [Nat.mul_add] at this
    rw [← Nat.mul_assoc p hi, Nat.mul_comm (p * hi), ← Nat.mul_assoc p y g, Nat.mul_comm (p * y) g] at this
    exact this
  have e4 : p * 18446744073709551616 * (nb + (hi + k2)) = 18446744073709551616 * (p * nb) + 18446744073709551616 * (p * hi) + 18446744073709551616 * (p * k2) := by
    rw [Nat.mul_comm p, Nat.mul_assoc, Nat.mul_add, Nat.mul_add, Nat.mul_add, Nat.mul_add]; omega
  rw [Nat.mul_add, e3, e4]
  rw [Nat.mul_add] at hv
  omega
theorem wval_ltN {ws : List Nat} {n : Nat} (h : small ws) (hl : ws.length = n) : wval ws < 18446744073709551616 ^ n := by rw [← hl]; exact wval_lt h
theorem take_end {u : List Nat} {n z c b x nb gD wl Un : Nat} {l' : List Nat} (h1 : wval l' = wl + 18446744073709551616 ^ n * z) (hv : wl + gD = Un + 18446744073709551616 ^ n * (b + c)) (hux : wval u = Un + 18446744073709551616 ^ n * x) (hzb : x + 18446744073709551616 * nb = z + c + b) (hnb : nb ≤ 1) (hs : small l') (hl : l'.length = n + 1) (hus : small u) (hul : u.length = n + 1) :
    nb = (if wval u < gD then 1 else 0) ∧ l' = wordsN (n + 1) (wval u + (if wval u < gD then 18446744073709551616 ^ (n + 1) else 0) - gD) := by
  have e1 : wval l' + gD = wval u + 18446744073709551616 ^ (n + 1) * nb := by
    have := congrArg (18446744073709551616 ^ n * ·) hzb
    simp only [Nat.mul_add] at this
    rw [← Nat.mul_assoc, ← Nat.pow_succ] at this
    rw [Nat.mul_add] at hv
    simp only [Nat.succ_eq_add_one] at this
    omega
  have hlt := wval_ltN hs hl
  have hult := wval_ltN hus hul
  generalize 18446744073709551616 ^ (n + 1) = M at *
  have hc : nb = 0 ∨ nb = 1 := by omega
  rcases hc with rfl | rfl
  · rw [if_neg (by omega), if_neg (by omega)]
    exact ⟨rfl, wordsN_eq hs hl (by omega)⟩
  · rw [if_pos (by omega), if_pos (by omega)]
    exact ⟨rfl, wordsN_eq hs hl (by omega)⟩
theorem take_start {u : List Nat} {m gD : Nat} (hus : small u) (hul : u.length = m) (hg : gD ≤ wval u + 18446744073709551616 ^ m) : wval (wordsN m (wval u + (if wval u < gD then 18446744073709551616 ^ m else 0) - gD)) + gD = wval u + 18446744073709551616 ^ m * (if wval u < gD then 1 else 0) := by
  have hult := wval_ltN hus hul
  by_cases h : wval u < gD
  · rw [if_pos h, if_pos h, wordsN_val _ _ (by omega)]; omega
  · rw [if_neg h, if_neg h, wordsN_val _ _ (by omega)]; omega
theorem ovr_get {ws : List Nat} {k : Nat} {l : List Nat} {j : Nat} (h : k + l.length ≤ ws.length) (hj : j < l.length) : (ovr ws k l).getD (k + j) 0 = l.getD j 0 := by
  have := ovr_seg h
  rw [← segN_get (n := l.length) hj, this]
theorem add_round {wr p c wl wd x y z nc : Nat} (hv : wr + p * c = wl + wd) (h : x + y + c = z + 18446744073709551616 * nc) : wr + p * z + p * 18446744073709551616 * nc = wl + p * x + (wd + p * y) := by
  have := congrArg (p * ·) h
  simp only [Nat.mul_add] at this
  rw [← Nat.mul_assoc] at this
  omega
theorem add_end {wr p c wl wd wL x v nv : Nat} (hv : wr + p * c = wl + wd) (hl : wL = wl + p * x) (h : x + c = v + 18446744073709551616 * nv) : wL + wd = wr + p * v + p * 18446744073709551616 * nv := by
  have := congrArg (p * ·) h
  simp only [Nat.mul_add] at this
  rw [← Nat.mul_assoc] at this
  omega
theorem digit_top {d : List Nat} {n : Nat} (_ : n < d.length) : d.getD n 0 * 18446744073709551616 ^ n ≤ wval d := by
  have h1 := wval_take d n
  have h2 : wval d = wval (d.take (n + 1)) + 18446744073709551616 ^ (d.take (n + 1)).length * wval (d.drop (n + 1)) := by rw [← wval_append, List.take_append_drop]
  rw [h2, h1, Nat.mul_comm]
  omega
theorem digit_tops {u : List Nat} {n m : Nat} (hs : small u) (hl : u.length = m + 1) (hm : m = n + 1) : wval u / 18446744073709551616 ^ n = u.getD m 0 * 18446744073709551616 + u.getD n 0 := by
  have h1 := wval_take u n
  have h2 := wval_take u m
  rw [List.take_of_length_le (by omega)] at h2
  have h3 := take_lt hs n
  have hp : 0 < 18446744073709551616 ^ n := Nat.pow_pos (by decide)
  rw [h2, hm, h1, Nat.pow_succ, Nat.mul_assoc, Nat.add_assoc, ← Nat.mul_add, Nat.add_mul_div_left _ _ hp, Nat.div_eq_of_lt h3, Nat.zero_add, Nat.mul_comm 18446744073709551616]
  omega
/-- a round of a long division -/
theorem long_round {U0 W1 Bk D S Q BQ : Nat} (h : U0 = W1 + Bk * S + D * BQ) (hq : BQ = Bk * 18446744073709551616 * Q) : U0 = W1 + Bk * (S % D) + D * (Bk * (S / D + 18446744073709551616 * Q)) := by
  have h1 := Nat.div_add_mod S D
  rw [h, hq]
  have e1 : Bk * S = Bk * (S % D) + D * (Bk * (S / D)) := by
    conv => lhs; rw [← h1]
    rw [Nat.mul_add, Nat.mul_left_comm, Nat.add_comm]
  rw [e1, Nat.mul_add Bk, Nat.mul_add D, Nat.mul_assoc Bk]
  omega
theorem wval_seg {ws : List Nat} (k n : Nat) (h : k + n ≤ ws.length) : wval (ws.take (k + n)) = wval (ws.take k) + 18446744073709551616 ^ k * wval ((ws.drop k).take n) := by
  have e : ws.take (k + n) = ws.take k ++ (ws.drop k).take n := by rw [List.take_add]
  rw [e, wval_append, List.length_take, Nat.min_eq_left (by omega)]
theorem wordsN_low {n x : Nat} (h : x < 18446744073709551616 ^ n) : (wordsN (n + 1) x).take n = wordsN n x := by
  have : ∀ (n x : Nat), (wordsN (n + 1) x).take n = wordsN n x := by
    intro n
    induction n with
    | zero => intro x; simp [wordsN]
    | succ n ih => intro x; rw [wordsN, List.take_succ_cons, ih, wordsN]
  exact this n x
theorem ovr_take {ws : List Nat} {k : Nat} {l : List Nat} (h : k ≤ ws.length) : (ovr ws k l).take k = ws.take k := by
  simp only [ovr]
  rw [List.take_append_of_le_length (by rw [List.length_take]; omega), List.take_take, Nat.min_self]
theorem seg_cons {ws : List Nat} {k m : Nat} (h : k < ws.length) : wval ((ws.drop k).take (m + 1)) = ws.getD k 0 + 18446744073709551616 * wval ((ws.drop (k + 1)).take m) := by
  rw [List.drop_eq_getElem_cons h, List.take_succ_cons, wval, List.getD_eq_getElem?_getD, List.getElem?_eq_getElem h]; rfl
theorem ovr_low {ws : List Nat} {k n x : Nat} (h : k + (n + 1) ≤ ws.length) (hx : x < 18446744073709551616 ^ n) : wval (((ovr ws k (wordsN (n + 1) x)).drop k).take n) = x := by
  have h1 := ovr_seg (ws := ws) (k := k) (l := wordsN (n + 1) x) (by rw [wordsN_len]; exact h)
  rw [wordsN_len] at h1
  have h2 : ((ovr ws k (wordsN (n + 1) x)).drop k).take n = (((ovr ws k (wordsN (n + 1) x)).drop k).take (n + 1)).take n := by rw [List.take_take, Nat.min_eq_left (by omega)]
  rw [h2, h1, wordsN_low hx, wordsN_val _ _ hx]
theorem rep_set {k : Nat} {q : List Nat} (v : Nat) : (List.replicate (k + 1) 0 ++ q).set k v = List.replicate k 0 ++ v :: q := by
  rw [List.replicate_succ', List.append_assoc, List.set_append_right _ _ (by simp)]
  simp
theorem moved_low {Bw : List Nat} {s : Nat} (hb : wval Bw * 2 ^ s < 18446744073709551616 ^ Bw.length) : wval ((movedL s 0 Bw).take Bw.length) = wval Bw * 2 ^ s := by
  have h1 := movedL_val s Bw 0
  have h2 := wval_take (movedL s 0 Bw) Bw.length
  rw [List.take_of_length_le (by rw [movedL_len]; omega), h1, Nat.add_zero] at h2
  rcases Nat.eq_zero_or_pos ((movedL s 0 Bw).getD Bw.length 0) with h | h
  · rw [h, Nat.mul_zero, Nat.add_zero] at h2; exact h2.symm
  · exfalso
    have : 18446744073709551616 ^ Bw.length * 1 ≤ 18446744073709551616 ^ Bw.length * (movedL s 0 Bw).getD Bw.length 0 := Nat.mul_le_mul_left _ h
    omega
end
end Go.Proofs.YtijbgbpjionfjaaGreatDoor.Am
namespace Go.Proofs.YtijbgbpjionfjaaGreatDoor.Am
section
open Go.RowKit
theorem uW_ren (θ : Nat → Nat) (ws : List Nat) : V.rens θ (uW ws) = uW ws := by
  have h := rens_map_d θ (ws.map fun x : Nat => D.int .u64 x)
  rw [List.map_map] at h
  exact h
theorem uW_plain (ws : List Nat) : plainL (uW ws) := ⟨uW_low 0 ws, fun θ => uW_ren θ ws⟩

theorem prod_parts {y g hi lo : Nat} (hy : y < 18446744073709551616) (hg : g < 18446744073709551616) (h1 : hi = y * g / 18446744073709551616) (h2 : lo = y * g % 18446744073709551616) : y * g = hi * 18446744073709551616 + lo ∧ lo < 18446744073709551616 ∧ hi + 1 < 18446744073709551616 := by
  have hp : y * g ≤ 18446744073709551615 * 18446744073709551615 := Nat.mul_le_mul (by omega) (by omega)
  generalize y * g = p at *
  omega

/-- what is left when so often the divisor is taken away -/
def takeR (ws d : List Nat) (k g : Nat) : List Nat := wordsN (d.length + 1) (wval ((ws.drop k).take (d.length + 1)) + (if wval ((ws.drop k).take (d.length + 1)) < g * wval d then 18446744073709551616 ^ (d.length + 1) else 0) - g * wval d)
set_option maxHeartbeats 4000000 in
theorem take_ok (ws d : List Nat) (k g : Nat) (hs : small ws) (hd : small d) (hk : k + d.length + 1 ≤ ws.length) (hn : ws.length ≤ 1000000) (hg : g < 18446744073709551616) :
    Eqn Tryz.prog n_nat_take [.row 0 k (d.length + 1), .d (W d), .d (.int .u64 g)] [⟨28, uW ws⟩] (.d (.int .i64 (if wval ((ws.drop k).take (d.length + 1)) < g * wval d then 1 else 0))) [⟨28, uW (ovr ws k (takeR ws d k g))⟩] := by
  refine Eqn.obj1 r_nat_take Plain.ok (uW_plain _) ?_
  obtain ⟨u, hu⟩ : ∃ u, u = (ws.drop k).take (d.length + 1) := ⟨_, rfl⟩
  have hul : u.length = d.length + 1 := by rw [hu]; exact segN_len (by omega)
  have hus : small u := by rw [hu]; exact (small_drop hs k).take _
  have hug : ∀ i, i < d.length + 1 → u.getD i 0 = ws.getD (k + i) 0 := fun i hi => by rw [hu]; exact segN_get hi
  rw [takeR, ← hu]
  simp only [c_nat_take, W]
  refine G0 ?_; try with_reducible exact tt
  refine AW.loopT (α := Nat × Nat × Nat × List Nat) 1 (fun s => [(17, .d (.int .i64 (s.1 : Int))), (7, .d (.int .u64 (s.2.1 : Int))), (8, .d (.int .u64 (s.2.2.1 : Int)))]) (fun s => [(0, ⟨28, uW (ovr ws k s.2.2.2)⟩)]) (fun s => s.1 ≤ d.length ∧ s.2.1 < 18446744073709551616 ∧ s.2.2.1 ≤ 1 ∧ s.2.2.2.length = s.1 ∧ small s.2.2.2 ∧ wval s.2.2.2 + g * wval (d.take s.1) = wval (u.take s.1) + 18446744073709551616 ^ s.1 * (s.2.2.1 + s.2.1)) (fun s => d.length - s.1) (0, 0, 0, []) ?_ ?_ ⟨Nat.zero_le _, by simp, by simp, rfl, small_nilN, by simp [wval]⟩ ?_ ?_ ?_
  · simp
  · simp
  · simp
  · simp [ovr_nil, uW_low]
  rintro ⟨i, c, b, l⟩ ⟨hi, hc, hb, hl, hsl, hv⟩
  simp only at hi hc hb hl hsl hv
  simp
  have hol : (uW (ovr ws k l)).length = ws.length := by rw [uW_length, ovr_len (by omega)]
  have hget := uW_get (ws := ovr ws k l) (j := k + i) (by rw [← uW_length, hol]; omega)
  have hnx := ovr_next (ws := ws) (k := k) (l := l) (by omega)
  rw [hl] at hnx
  rw [hnx, ← hug i (by omega)] at hget
  have hx := hus.getD i
  have hset : ∀ v : Nat, (uW (ovr ws k l)).set (k + i) (.d (.int .u64 v)) = uW (ovr ws k (l ++ [v])) := fun v => by rw [uW_set, ← hl, ovr_set (by omega)]
  have hki : ((k : Int) + i).toNat = k + i := by omega
  obtain ⟨x, hxd⟩ : ∃ x, x = u.getD i 0 := ⟨_, rfl⟩
  rw [← hxd] at hget hx
  by_cases hin : i < d.length
  · have hin' : (i : Int) < d.length := by omega
    have hy : d[i] < 18446744073709551616 := hd _ (List.getElem_mem _)
    have hyd : d[i] = d.getD i 0 := W_get hin
    have e2 : IntKind.i64.wrap ((i : Int) + 1) = (i : Int) + 1 := w64 (by omega) (by omega)
    refine G1 (fs hin hin') ?_; try with_reducible exact tt
    refine AW.cond rfl (fun h => ?_) (fun h => ?_)
    · clear h
      refine G1 (fs hin hin') ?_; try with_reducible exact tt
      generalize d[i] = y at hy hyd ⊢
      have hmul := mul64_ok y g hy hg
      obtain ⟨hi', hhi⟩ : ∃ q, q = y * g / 18446744073709551616 := ⟨_, rfl⟩
      obtain ⟨lo, hlo⟩ : ∃ q, q = y * g % 18446744073709551616 := ⟨_, rfl⟩
      rw [← hhi, ← hlo] at hmul
      obtain ⟨hyg, hl0, hh0⟩ := prod_parts hy hg hhi hlo
      clear hhi hlo
      obtain ⟨l2, k2, hl1, hll2, hk2⟩ : ∃ l2 k2 : Nat, lo + c + 0 = l2 + 18446744073709551616 * k2 ∧ l2 < 18446744073709551616 ∧ k2 ≤ 1 := ⟨(lo + c) % 18446744073709551616, (lo + c) / 18446744073709551616, by omega, by omega, by omega⟩
      obtain ⟨z, nb, hzb, hz, hnb⟩ : ∃ z nb : Nat, x + 18446744073709551616 * nb = z + l2 + b ∧ z < 18446744073709551616 ∧ nb ≤ 1 := by
        by_cases h : l2 + b ≤ x
        · exact ⟨x - l2 - b, 0, by omega, by omega, by omega⟩
        · exact ⟨x + 18446744073709551616 - l2 - b, 1, by omega, by omega, by omega⟩
      have w1 : IntKind.u64.wrap ((hi' : Int) + k2) = ((hi' + k2 : Nat) : Int) := wu64 (by omega) (by omega)
      have hround := take_round hv hyg (by omega : lo + c = l2 + 18446744073709551616 * k2) hzb
      have ht : g * wval (d.take (i + 1)) = g * (wval (d.take i) + 18446744073709551616 ^ i * y) := by rw [wval_take, ← hyd]
      have hut : wval (u.take (i + 1)) = wval (u.take i) + 18446744073709551616 ^ i * x := by rw [wval_take, ← hxd]
      have hsn : wval (l ++ [z]) = wval l + 18446744073709551616 ^ i * z := by rw [wval_snoc, hl]
      rw [← hsn, ← ht, ← hut, ← Nat.pow_succ] at hround
      have hhk : hi' + k2 < 18446744073709551616 := by omega
      refine CallS.pu (hmul) (R1 (fs hol (fs hget hki)) ?_); try with_reducible exact tt
      generalize hi' + k2 = hk at *
      refine CallS.pu (add64_ok lo c 0 l2 k2 hl0 hc (by omega) hll2 hl1) (R1 (fs w1 (fs hol (fs hget hki))) ?_); try with_reducible exact tt
      refine CallS.pu (sub64_ok x l2 b z nb hx hll2 hb hz (by omega)) (R1 (fs hol (fs hki (fs hset e2))) ?_); try with_reducible exact tt
      refine ⟨i + 1, hk, nb, l ++ [z], ⟨hin, hhk, hnb, by simp [hl], small_snoc hsl hz, hround⟩, by omega, by simp, ?_⟩
      exact ⟨Subs.refl _, uW_low _ _⟩
    · simp [hin, hin'] at h
  · have h2 : i = d.length := by omega
    subst h2
    rw [List.take_length] at hv
    obtain ⟨z, nb, hzb, hz, hnb⟩ : ∃ z nb : Nat, x + 18446744073709551616 * nb = z + c + b ∧ z < 18446744073709551616 ∧ nb ≤ 1 := by
      by_cases h : c + b ≤ x
      · exact ⟨x - c - b, 0, by omega, by omega, by omega⟩
      · exact ⟨x + 18446744073709551616 - c - b, 1, by omega, by omega, by omega⟩
    refine G0 ?_; try with_reducible exact tt
    refine AW.cond rfl (fun h => ?_) (fun h => ?_)
    · simp at h
    refine AW.exit ?_
    (try (simp -implicitDefEqProofs; try simp (disch := omega) only [w64, wu64]))
    refine G1 (fs hol (fs hget hki)) ?_; try with_reducible exact tt
    refine CallS.pu (sub64_ok x c b z nb hx hc hb hz (by omega)) (R1 (fs hol (fs hki hset)) ?_); try with_reducible exact tt
    have hux : wval u = wval (u.take d.length) + 18446744073709551616 ^ d.length * x := by
      rw [hxd, ← wval_take, List.take_of_length_le (by omega)]
    obtain ⟨hnb', hR⟩ := take_end (n := d.length) (by rw [wval_snoc, hl]) hv hux hzb hnb (small_snoc hsl hz) (by simp [hl]) hus hul
    rw [← hR]
    refine ⟨Sub1.int ?_, Subs.refl _⟩
    rw [hnb']
    split <;> rfl
end
end Go.Proofs.YtijbgbpjionfjaaGreatDoor.Am
namespace Go.Proofs.YtijbgbpjionfjaaGreatDoor.Am
section
open Go.RowKit
set_option maxHeartbeats 4000000 in
/-- how often the divisor is in a row that is one word longer; the row becomes the rest -/
theorem digit_ok (ws d : List Nat) (k : Nat) (hs : small ws) (hd : small d) (hd1 : 1 ≤ d.length) (hk : k + d.length + 1 ≤ ws.length) (hn : ws.length ≤ 1000000) (htop : d.getD (d.length - 1) 0 ≠ 0) (hU : wval ((ws.drop k).take (d.length + 1)) < wval d * 18446744073709551616) :
    Eqn Tryz.prog n_nat_digit [.row 0 k (d.length + 1), .d (W d)] [⟨28, uW ws⟩] (.d (.int .u64 (wval ((ws.drop k).take (d.length + 1)) / wval d : Nat))) [⟨28, uW (ovr ws k (wordsN (d.length + 1) (wval ((ws.drop k).take (d.length + 1)) % wval d)))⟩] := by
  refine Eqn.obj1 r_nat_digit Plain.ok (uW_plain _) ?_
  have htk := fun g hg => take_ok ws d k g hs hd hk hn hg
  obtain ⟨u, hu⟩ : ∃ u, u = (ws.drop k).take (d.length + 1) := ⟨_, rfl⟩
  have hul : u.length = d.length + 1 := by rw [hu]; exact segN_len (by omega)
  have hus : small u := by rw [hu]; exact (small_drop hs k).take _
  have hug : ∀ i, i < d.length + 1 → u.getD i 0 = ws.getD (k + i) 0 := fun i hi => by rw [hu]; exact segN_get hi
  simp only [takeR, ← hu] at htk hU ⊢
  obtain ⟨n, hdn⟩ : ∃ n, d.length = n + 1 := ⟨d.length - 1, by omega⟩
  have hgn := uW_get (ws := ws) (j := k + d.length) (by omega)
  have hgm := uW_get (ws := ws) (j := k + n) (by omega)
  rw [← hug _ (by omega)] at hgn hgm
  have hwl := uW_length ws
  have hx1 := hus.getD d.length
  have hx0 := hus.getD n
  have hdt : d[n]? = some (d.getD n 0) := by rw [List.getD_eq_getElem?_getD, List.getElem?_eq_getElem (by omega)]; rfl
  have hdt2 : d[n]'(by omega) = d.getD n 0 := W_get (by omega)
  have hdg := hd.getD n
  rw [hdn, Nat.add_sub_cancel] at htop
  have hUx : wval u / 18446744073709551616 ^ n = u.getD d.length 0 * 18446744073709551616 + u.getD n 0 := digit_tops hus (by omega) hdn
  have hDt : d.getD n 0 * 18446744073709551616 ^ n ≤ wval d := digit_top (by omega)
  generalize u.getD d.length 0 = x1 at *
  generalize u.getD n 0 = x0 at *
  generalize hdd : d.getD n 0 = dt at *
  have hD0 : 0 < wval d := Nat.lt_of_lt_of_le (Nat.mul_pos (by omega) (Nat.pow_pos (by decide))) hDt
  have ed : IntKind.i64.wrap ((d.length : Int) - 1) = (n : Int) := by rw [w64 (by omega) (by omega)]; omega
  have hkd : ((k : Int) + d.length).toNat = k + d.length := by omega
  have hnd : (n : Int) < d.length := by omega
  have hnd' : n < d.length := by omega
  obtain ⟨g, hg, hgD, hgc⟩ : ∃ g : Nat, g ≤ 18446744073709551615 ∧ wval u / wval d ≤ g ∧ (if x1 < dt then g = (x1 * 18446744073709551616 + x0) / dt else g = 18446744073709551615) := by
    by_cases h : x1 < dt
    · refine ⟨(x1 * 18446744073709551616 + x0) / dt, ?_, digit_guess (B := 18446744073709551616) (by decide) (Nat.pow_pos (by decide)) hUx hDt (by omega), by rw [if_pos h]⟩
      have : (x1 * 18446744073709551616 + x0) / dt < 18446744073709551616 := by
        rw [Nat.div_lt_iff_lt_mul (by omega)]
        have : (x1 + 1) * 18446744073709551616 ≤ dt * 18446744073709551616 := Nat.mul_le_mul_right _ h
        omega
      omega
    · refine ⟨18446744073709551615, by omega, ?_, by rw [if_neg h]⟩
      have : wval u / wval d < 18446744073709551616 := by rw [Nat.div_lt_iff_lt_mul hD0, Nat.mul_comm]; exact hU
      omega
  simp only [c_nat_digit, W] at htk ⊢
  repeat (first | refine AW.seq ?_ | refine AW.block ?_)
  refine AW.reg mix ?_
  (simp -implicitDefEqProofs; try simp (disch := omega) only [w64, wu64])
  try refine need.of (by first | omega | kernel_rfl) ?_
  repeat (first | refine AW.seq ?_ | refine AW.block ?_)
  refine AW.reg mix ?_
  (simp -implicitDefEqProofs; try simp (disch := omega) only [w64, wu64])
  try refine need.of (by first | omega | kernel_rfl) ?_
  repeat (first | refine AW.seq ?_ | refine AW.block ?_)
  refine AW.reg mix ?_
  (simp -implicitDefEqProofs; try simp (disch := omega) only [w64, wu64])
  try refine need.of (by first | omega | kernel_rfl) ?_
  refine AW.cut 1 [(6, .d (.int .u64 g))] [(0, ⟨28, uW ws⟩)] (by simp) (by simp) ?_ ?_
  · by_cases hlt : x1 < dt
    · rw [if_pos hlt] at hgc
      have hlt' : (x1 : Int) < dt := by omega
      refine G1 (fs hwl (fs hgn (fs hgm (fs ed (fs hkd (fs hnd (fs hnd' (fs hdt (fs hdt2 (fs hlt hlt')))))))))) ?_; try with_reducible exact tt
      refine AW.cond rfl (fun h => ?_) (fun h => ?_)
      · have hdiv := div64_ok x1 x0 dt hlt hx0 hdg
        rw [← hgc] at hdiv
        refine G1 (fs hwl (fs hgn (fs hgm (fs ed (fs hkd (fs hnd (fs hnd' hdt))))))) ?_; try with_reducible exact tt
        simp only [hdt2]
        refine CallS.pu (hdiv) (R0 ?_); try with_reducible exact tt
        exact uW_low _ _
      · simp [hlt, hlt'] at h
    · rw [if_neg hlt] at hgc
      have hlt' : ¬ (x1 : Int) < dt := by omega
      refine G1 (fs hwl (fs hgn (fs hgm (fs ed (fs hkd (fs hnd (fs hnd' (fs hdt (fs hdt2 (fs hlt hlt')))))))))) ?_; try with_reducible exact tt
      refine AW.cond rfl (fun h => ?_) (fun h => ?_)
      · simp [hlt, hlt'] at h
      · refine AW.skip ?_
        subst hgc
        simp [uW_low]
  clear hgc
  have hDn : wval d < 18446744073709551616 ^ d.length := wval_lt hd
  have hgM : g * wval d ≤ wval u + 18446744073709551616 ^ (d.length + 1) := by
    rw [Nat.pow_succ]
    have : g * wval d ≤ 18446744073709551616 * 18446744073709551616 ^ d.length := Nat.mul_le_mul (by omega) (by omega)
    rw [Nat.mul_comm _ 18446744073709551616]
    omega
  obtain ⟨t0, l0, ht0, hl0, hsl0, hv0, hE0⟩ : ∃ (t0 : Nat) (l0 : List Nat), t0 ≤ 1 ∧ l0.length = d.length + 1 ∧ small l0 ∧ wval l0 + g * wval d = wval u + 18446744073709551616 ^ (d.length + 1) * t0 ∧
      Eqn Tryz.prog n_nat_take [.row 0 k (d.length + 1), .d (.sl d.length (d.map fun x : Nat => D.int .u64 x)), .d (.int .u64 g)] [⟨28, uW ws⟩] (.d (.int .i64 t0)) [⟨28, uW (ovr ws k l0)⟩] := by
    refine ⟨if wval u < g * wval d then 1 else 0, _, by split <;> omega, wordsN_len _ _, wordsN_small _ _, take_start hus hul hgM, ?_⟩
    have := htk g (by omega)
    rw [show ((if wval u < g * wval d then 1 else 0 : Nat) : Int) = if wval u < g * wval d then 1 else 0 by split <;> rfl]
    exact this
  clear htk hgM
  simp
  refine G0 ?_; try with_reducible exact tt
  refine CallS.o1 0 (hE0) (hO := uW_plain _) (hO' := (uW_plain _)) (R0 ?_); try with_reducible exact tt
  refine AW.loopT (α := Nat × Nat × List Nat) 1 (fun s => [(7, .d (.int .i64 (s.1 : Nat))), (6, .d (.int .u64 (s.2.1 : Nat)))]) (fun s => [(0, ⟨28, uW (ovr ws k s.2.2)⟩)]) (fun s => s.1 ≤ 1 ∧ s.2.1 ≤ 18446744073709551615 ∧ wval u / wval d ≤ s.2.1 ∧ s.2.2.length = d.length + 1 ∧ small s.2.2 ∧ wval s.2.2 + s.2.1 * wval d = wval u + 18446744073709551616 ^ (d.length + 1) * s.1) (fun s => s.2.1) (t0, g, l0) ?_ ?_ ⟨ht0, hg, hgD, hl0, hsl0, hv0⟩ ?_ ?_ ?_
  · simp
  · simp
  · simp
  · simp [uW_low]
  clear hE0 hl0 hsl0 hv0 ht0 hg hgD
  rintro ⟨t, g, l⟩ ⟨ht, hg, hgD, hl, hsl, hv⟩
  simp only at ht hg hgD hl hsl hv
  simp
  rcases (by omega : t = 0 ∨ t = 1) with rfl | rfl
  · rw [Nat.mul_zero, Nat.add_zero] at hv
    obtain ⟨hq, hr⟩ := digit_done hD0 hgD hv
    have hlw := wordsN_eq hsl hl hr.symm
    refine G0 ?_; try with_reducible exact tt
    refine AW.cond rfl (fun h => ?_) (fun h => ?_)
    · simp at h
    refine AW.exit ?_
    (try (simp -implicitDefEqProofs; try simp (disch := omega) only [w64, wu64]))
    refine G0 ?_; try with_reducible exact tt
    rw [← hlw]
    refine ⟨Sub1.int ?_, Subs.refl _⟩
    rw [← hq]; rfl
  · rw [Nat.mul_one] at hv
    obtain ⟨hg0, hn1, hn2⟩ := digit_next (P := 18446744073709551616 ^ d.length) (by rw [Nat.pow_succ, Nat.mul_comm]) hDn hD0 hg (by rw [← hl]; exact wval_lt hsl) hv
    have ew : IntKind.u64.wrap ((g : Int) - 1) = ((g - 1 : Nat) : Int) := by rw [wu64 (by omega) (by omega)]; omega
    refine G1 ew ?_; try with_reducible exact tt
    refine AW.cond rfl (fun h => ?_) (fun h => ?_)
    rotate_left
    · simp at h
    refine G1 ew ?_; try with_reducible exact tt
    have hwlen : (ovr ws k l).length = ws.length := ovr_len (by omega)
    have hlg : ∀ j, j < d.length + 1 → (ovr ws k l).getD (k + j) 0 = l.getD j 0 := fun j hj => ovr_get (by omega) (by omega)
    have hws1 : small (ovr ws k l) := ovr_small hs hsl
    have hoo : ∀ r, r.length = d.length + 1 → ovr (ovr ws k l) k r = ovr ws k r := fun r hr => ovr_ovr (by omega) (by omega)
    refine AW.loopT (α := Nat × Nat × List Nat) 1 (fun s => [(53, .d (.int .i64 (s.1 : Nat))), (8, .d (.int .u64 (s.2.1 : Nat)))]) (fun s => [(0, ⟨28, uW (ovr (ovr ws k l) k s.2.2)⟩)]) (fun s => s.1 ≤ d.length ∧ s.2.1 ≤ 1 ∧ s.2.2.length = s.1 ∧ small s.2.2 ∧ wval s.2.2 + 18446744073709551616 ^ s.1 * s.2.1 = wval (l.take s.1) + wval (d.take s.1)) (fun s => d.length - s.1) (0, 0, []) ?_ ?_ ⟨Nat.zero_le _, by simp, rfl, small_nilN, by simp [wval]⟩ ?_ ?_ ?_
    · simp
    · simp
    · simp
    · simp [uW_low, ovr_nil]
    rintro ⟨j, c, r⟩ ⟨hj, hc, hr, hsr, hv2⟩
    simp only at hj hc hr hsr hv2
    simp
    have hol : (uW (ovr (ovr ws k l) k r)).length = ws.length := by rw [uW_length, ovr_len (by omega), hwlen]
    have hget := uW_get (ws := ovr (ovr ws k l) k r) (j := k + j) (by rw [← uW_length, hol]; omega)
    have hnx := ovr_next (ws := ovr ws k l) (k := k) (l := r) (by omega)
    rw [hr] at hnx
    rw [hnx, hlg j (by omega)] at hget
    have hx := hsl.getD j
    have hset : ∀ v : Nat, (uW (ovr (ovr ws k l) k r)).set (k + j) (.d (.int .u64 v)) = uW (ovr (ovr ws k l) k (r ++ [v])) := fun v => by rw [uW_set, ← hr, ovr_set (by omega)]
    have hkj : ((k : Int) + j).toNat = k + j := by omega
    obtain ⟨x, hxd⟩ : ∃ x, x = l.getD j 0 := ⟨_, rfl⟩
    rw [← hxd] at hget hx
    by_cases hjn : j < d.length
    · have hjn' : (j : Int) < d.length := by omega
      have hy : d[j] < 18446744073709551616 := hd _ (List.getElem_mem _)
      have hyd : d[j] = d.getD j 0 := W_get hjn
      have e2 : IntKind.i64.wrap ((j : Int) + 1) = ((j + 1 : Nat) : Int) := by rw [w64 (by omega) (by omega)]; omega
      refine G1 (fs hjn hjn') ?_; try with_reducible exact tt
      refine AW.cond rfl (fun h => ?_) (fun h => ?_)
      rotate_left
      · simp [hjn, hjn'] at h
      clear h
      refine G1 (fs hjn (fs hjn' (fs hol (fs hget hkj)))) ?_; try with_reducible exact tt
      generalize d[j] = y at hy hyd ⊢
      obtain ⟨z, nc, hzc, hz, hnc⟩ : ∃ z nc : Nat, x + y + c = z + 18446744073709551616 * nc ∧ z < 18446744073709551616 ∧ nc ≤ 1 := ⟨(x + y + c) % 18446744073709551616, (x + y + c) / 18446744073709551616, by omega, by omega, by omega⟩
      have hround := add_round hv2 hzc
      rw [show wval r + 18446744073709551616 ^ j * z = wval (r ++ [z]) by rw [wval_snoc, hr], show wval (l.take j) + 18446744073709551616 ^ j * x = wval (l.take (j + 1)) by rw [wval_take, ← hxd], show wval (d.take j) + 18446744073709551616 ^ j * y = wval (d.take (j + 1)) by rw [wval_take, ← hyd], ← Nat.pow_succ] at hround
      refine CallS.pu (add64_ok x y c z nc hx hy hc hz hzc) (R1 (fs hol (fs hkj (fs hset e2))) ?_); try with_reducible exact tt
      exact ⟨j + 1, nc, r ++ [z], ⟨hjn, hnc, by simp [hr], small_snoc hsr hz, hround⟩, by omega, by simp, Subs.refl _, uW_low _ _⟩
    · have h2 : j = d.length := by omega
      subst h2
      rw [List.take_length] at hv2
      have hlx : wval l = wval (l.take d.length) + 18446744073709551616 ^ d.length * x := by rw [hxd, ← wval_take, List.take_of_length_le (by omega)]
      obtain ⟨v, nv, hvc, hvl, hnv⟩ : ∃ v nv : Nat, x + c = v + 18446744073709551616 * nv ∧ v < 18446744073709551616 ∧ nv ≤ 1 := ⟨(x + c) % 18446744073709551616, (x + c) / 18446744073709551616, by omega, by omega, by omega⟩
      have wv : IntKind.u64.wrap ((x : Int) + c) = (v : Int) := by rw [IntKind.wrap_u64]; omega
      have hrv : (r ++ [v]).length = d.length + 1 := by simp [hr]
      have hsum := add_end (p := 18446744073709551616 ^ d.length) (wr := wval r) (c := c) (x := x) hv2 hlx hvc
      rw [show wval r + 18446744073709551616 ^ d.length * v = wval (r ++ [v]) by rw [wval_snoc, hr], ← Nat.pow_succ] at hsum
      have hrlt := wval_lt (small_snoc hsr hvl)
      rw [hrv] at hrlt
      replace hset := hset v
      rw [hoo _ hrv] at hset
      have hget2 := uW_get (ws := ovr ws k (r ++ [v])) (j := k + d.length) (by rw [ovr_len (by omega)]; omega)
      rw [ovr_get (by omega) (by omega), show (r ++ [v]).getD d.length 0 = v by rw [← hr]; simp] at hget2
      refine G0 ?_; try with_reducible exact tt
      refine AW.cond rfl (fun h => ?_) (fun h => ?_)
      · simp at h
      refine AW.exit ?_
      (try (simp -implicitDefEqProofs; try simp (disch := omega) only [w64, wu64]))
      have hol2 : (uW (ovr ws k (r ++ [v]))).length = ws.length := by rw [uW_length, ovr_len (by omega)]
      have hsr2 := small_snoc hsr hvl
      generalize hr2 : r ++ [v] = r2 at *
      have hrw : wval r < 18446744073709551616 ^ d.length := by rw [← hr]; exact wval_lt hsr
      have hrw2 : wval r2 = wval r + 18446744073709551616 ^ d.length * v := by rw [← hr2, wval_snoc, hr]
      by_cases hv0 : v = 0
      · subst hv0
        have hnv1 : nv = 1 := by
          rcases (by omega : nv = 0 ∨ nv = 1) with rfl | h
          · exfalso
            rw [Nat.mul_zero, Nat.add_zero] at hsum
            rw [Nat.mul_zero, Nat.add_zero] at hrw2
            have := (hn2 (by omega)).2
            omega
          · exact h
        subst hnv1
        rw [Nat.mul_one] at hsum
        obtain ⟨k1, k2, k3, -⟩ := hn1 (by omega)
        simp at hset hget2 wv
        refine G1 (fs hol (fs hget (fs hkj (fs wv (fs hset (fs hget2 hol2)))))) ?_; try with_reducible exact tt
        refine AW.cond rfl (fun h => ?_) (fun h => ?_)
        · simp at h
        repeat (first | refine AW.seq ?_ | refine AW.block ?_ | (refine AW.reg mix ?_; simp -implicitDefEqProofs; try simp (disch := omega) only [w64, wu64]) | (refine need.of (by first | omega | kernel_rfl) ?_) | (refine AW.fin ?_; try simp -implicitDefEqProofs))
        (try (simp -implicitDefEqProofs; try simp (disch := omega) only [w64, wu64]))
        repeat (first | refine AW.seq ?_ | refine AW.block ?_ | (refine AW.reg mix ?_; simp -implicitDefEqProofs; try simp (disch := omega) only [w64, wu64]) | (refine need.of (by first | omega | kernel_rfl) ?_) | (refine AW.fin ?_; try simp -implicitDefEqProofs))
        refine ⟨0, g - 1, r2, ⟨by omega, by omega, by omega, hrv, hsr2, ?_⟩, by omega, by simp, ?_⟩
        · rw [Nat.mul_zero, Nat.add_zero, ← k1]; omega
        · exact ⟨Subs.refl _, uW_low _ _⟩
      · have hnv0 : nv = 0 := by omega
        subst hnv0
        rw [Nat.mul_zero, Nat.add_zero] at hsum
        obtain ⟨k1, k2⟩ := hn2 (by omega)
        refine G1 (fs hol (fs hget (fs hkj (fs wv (fs hset (fs hget2 (fs hol2 hv0))))))) ?_; try with_reducible exact tt
        refine AW.cond rfl (fun h => ?_) (fun h => ?_)
        rotate_left
        · simp [hv0] at h
        repeat (first | refine AW.seq ?_ | refine AW.block ?_ | (refine AW.reg mix ?_; simp -implicitDefEqProofs; try simp (disch := omega) only [w64, wu64]) | (refine need.of (by first | omega | kernel_rfl) ?_) | (refine AW.fin ?_; try simp -implicitDefEqProofs))
        (try (simp -implicitDefEqProofs; try simp (disch := omega) only [w64, wu64]))
        repeat (first | refine AW.seq ?_ | refine AW.block ?_ | (refine AW.reg mix ?_; simp -implicitDefEqProofs; try simp (disch := omega) only [w64, wu64]) | (refine need.of (by first | omega | kernel_rfl) ?_) | (refine AW.fin ?_; try simp -implicitDefEqProofs))
        refine ⟨1, g - 1, r2, ⟨by omega, by omega, ?_, hrv, hsr2, ?_⟩, by omega, by simp, ?_⟩
        · exact Nat.div_le_of_le_mul (by rw [Nat.mul_comm]; omega)
        · omega
        · exact ⟨Subs.refl _, uW_low _ _⟩
end
end Go.Proofs.YtijbgbpjionfjaaGreatDoor.Am
namespace Go.Proofs.YtijbgbpjionfjaaGreatDoor.Am
section
open Go.RowKit
set_option maxHeartbeats 1000000 in
theorem moved_new (A : List Nat) (k : Nat) (hk : k < 64) (hs : small A) (hn : A.length ≤ 1000000) : Eqn Tryz.prog n_nat_moved [.d (W A), .d (.int .i64 k)] [] (.own 0 1 (A.length + 1)) [⟨28, uW (movedL k 0 A)⟩] := by
  refine Eqn.gen [0] r_nat_moved (by simp) (by simp) (by rfl) (by decide) (by simp) (by simp [uW_low]) ?_
  simp only [c_nat_moved, W]
  refine G0 ?_; try with_reducible exact tt
  rw [show List.replicate (A.length + 1) (V.d (.int .u64 0)) = cellM k A 0 by rw [cellM, rowM_zero]; simp [U]]
  have hlow : ∀ i, V.lowl 1 (cellM k A i) = true := fun i => lowl_U 1 _
  refine AW.loopT (α := Nat) 1 (fun i => [(14, .d (.int .i64 (i : Int)))]) (fun i => [(0, ⟨28, cellM k A i⟩)]) (fun i => i ≤ A.length) (fun i => A.length - i) 0 ?_ ?_ (Nat.zero_le _) ?_ ?_ ?_
  · simp
  · simp
  · simp
  · simp [hlow]
  rintro i hi
  simp
  by_cases h : i = A.length
  · subst h
    refine G0 ?_; try with_reducible exact tt
    refine AW.cond rfl (fun h => ?_) (fun h => ?_)
    · simp at h
    refine AW.exit ?_
    (try (simp -implicitDefEqProofs; try simp (disch := omega) only [w64, wu64]))
    rw [cellM, rowM_end]
    repeat (first | refine AW.seq ?_ | refine AW.block ?_ | (refine AW.reg mix ?_; simp -implicitDefEqProofs [uW]; try simp (disch := omega) only [w64, wu64]) | (refine need.of (by first | omega | kernel_rfl) ?_) | (refine AW.fin ?_; try simp -implicitDefEqProofs [uW]))
    rw [show U (movedL k 0 A) = uW (movedL k 0 A) from rfl, uW_ren]
    exact Subs.refl _
  · have hi' : i < A.length := by omega
    have hp : (i : Int) < A.length := by omega
    obtain ⟨c, y, u, hl, hq, hor, hw, hd, hset⟩ : ∃ c z u : Nat, (cellM k A i).length = A.length + 1 ∧ (cellM k A i)[i]? = some (.d (.int .u64 c)) ∧ bits BinOp.or IntKind.u64 (c : Int) (IntKind.u64.wrap ((A[i] : Int) * 2 ^ k)) = (z : Int) ∧
        True ∧ (A[i] : Int) / 2 ^ (64 - k) = (u : Int) ∧ ((cellM k A i).set i (.d (.int .u64 z))).set (i + 1) (.d (.int .u64 u)) = cellM k A (i + 1) := by
      have hl := rowM_length k A i hi
      have hc := movedC_lt (k := k) (l := A.take i) (c := 0) (hs.take i) (Nat.two_pow_pos k)
      have hset := rowM_set k A i hi'
      rw [← W_get hi'] at hset
      refine ⟨movedC k 0 (A.take i), A[i] * 2 ^ k % 18446744073709551616 + movedC k 0 (A.take i), A[i] * 2 ^ k / 18446744073709551616, by simp [cellM, U, hl], ?_, ?_, trivial, ?_, ?_⟩
      · have := rowM_get k A i hi'
        rw [List.getD, List.getElem?_eq_getElem (by omega)] at this
        rw [cellM, U, List.getElem?_map, List.getElem?_eq_getElem (by omega)]
        simp at this
        simp [this]
      · rw [show IntKind.u64.wrap ((A[i] : Int) * 2 ^ k) = ((A[i] * 2 ^ k % 18446744073709551616 : Nat) : Int) by rw [IntKind.wrap_u64, Int.natCast_emod, Int.natCast_mul, Int.natCast_pow]; rfl]
        rw [bits_or_u64_nat _ _ (Nat.lt_of_lt_of_le hc (by rw [show (18446744073709551616 : Nat) = 2 ^ 64 by rfl]; exact Nat.pow_le_pow_right (by decide) (by omega))) (Nat.mod_lt _ (by decide)), or_moved hk hc]
      · rw [moved_div (by omega), Int.natCast_ediv, Int.natCast_pow]; rfl
      · rw [cellM, cellM, ← hset, U, U, List.map_set, List.map_set]
    have hn : ((64 : Int) - k).toNat = 64 - k := by omega
    have e1 : IntKind.i64.wrap ((i : Int) + 1) = (i : Int) + 1 := w64 (by omega) (by omega)
    have e2 : IntKind.i64.wrap ((64 : Int) - k) = (64 : Int) - k := w64 (by omega) (by omega)
    generalize cellM k A i = cm at hl hq hset
    refine G1 (fs hi' hp) ?_; try with_reducible exact tt
    refine AW.cond rfl (fun h => ?_) (fun h => ?_)
    · clear h
      refine G1 (fs hi' (fs hp (fs hl (fs hq (fs hor (fs e1 (fs e2 (fs hn (fs hd hset))))))))) ?_; try with_reducible exact tt
      exact ⟨i + 1, by omega, by omega, by simp [wk], by simp [wkH, hlow]⟩
    · simp at h

theorem frzs_uW (n s : Nat) (ds : List D) (ws : List Nat) : V.frzs n s ds (uW ws) = uW ws := by
  rw [frzs_map, uW, U, List.map_map]; rfl
theorem uW_d (ws : List Nat) : uW ws = (ws.map fun x : Nat => D.int .u64 x).map V.d := by rw [List.map_map]; rfl

set_option maxHeartbeats 4000000 in
theorem long_ok (a b : Nat) (hb : 18446744073709551616 ≤ b) (hab : b ≤ a) (ha : size a ≤ 900000) : Eqn Tryz.prog n_nat_long [.d (.agg [natW a]), .d (.agg [natW b])] [] (.tup [.d (.agg [natW (a / b)]), .d (.agg [natW (a % b)]), .d (.int .i64 0)]) [] := by
  refine Eqn.pure r_nat_long Plain.ok ?_
  have hba := size_le hab
  unfold size at ha hba
  have hsA := words_small a
  have hsB := words_small b
  have htB := words_top b
  have hvA := words_val a
  have hvB := words_val b
  have hB2 : 2 ≤ (words b).length := by
    rcases Nat.lt_or_ge (words b).length 2 with h | h
    · exfalso
      have := wval_lt hsB
      rw [hvB] at this
      have h2 : 18446744073709551616 ^ (words b).length ≤ 18446744073709551616 ^ 1 := Nat.pow_le_pow_right (by decide) (by omega)
      omega
    · exact h
  simp only [c_nat_long, natW, W]
  generalize words a = A at *
  generalize words b = Bw at *
  obtain ⟨n, hn⟩ : ∃ n, Bw.length = n + 1 := ⟨Bw.length - 1, by omega⟩
  have htop := htB n hn
  have htl := hsB.getD n
  have hget : Bw[n]'(by omega) = Bw.getD n 0 := W_get (by omega)
  have hlead := lead64_ok (Bw.getD n 0) htl
  have e1 : IntKind.i64.wrap ((Bw.length : Int) - 1) = (n : Int) := by rw [w64 (by omega) (by omega)]; omega
  have hnB : n < Bw.length := by omega
  have hnB' : (n : Int) < Bw.length := by omega
  generalize Bw.getD n 0 = top at *
  obtain ⟨s, hs⟩ : ∃ s, s = 64 - bitsN top := ⟨_, rfl⟩
  rw [← hs] at hlead
  have hs64 : s < 64 := by have := (bitsN_pos (n := top) (by omega)).2; omega
  have hmB := moved_ok Bw s hs64 hsB (by omega)
  have hmA := moved_new A s hs64 hsA (by omega)
  simp only [W, movedL_len] at hmB
  refine G1 (fs e1 (fs hnB (fs hnB' hget))) ?_; try with_reducible exact tt
  refine CallS.pu (hlead) (R1 (fs e1 (fs hnB (fs hnB' hget))) ?_); try with_reducible exact tt
  refine CallS.pu (hmB) (R1 (fs e1 (fs hnB (fs hnB' hget))) ?_); try with_reducible exact tt
  have hlm : (A.length : Int) + 1 - Bw.length = ((A.length - n : Nat) : Int) := by omega
  have hlm2 : IntKind.i64.wrap ((A.length : Int) + 1 - Bw.length) = ((A.length - n : Nat) : Int) := by rw [w64 (by omega) (by omega), hlm]
  have hlm3 : IntKind.i64.wrap (((A.length - n : Nat) : Int) - 1) = ((A.length - n : Nat) : Int) - 1 := w64 (by omega) (by omega)
  refine CallS.nX (hmA) (hO' := (uW_plain _)) (R1 (fs e1 (fs hnB (fs hnB' (fs hget (fs hlm2 hlm3))))) ?_); try with_reducible exact tt
  have hnA : n + 1 ≤ A.length := by omega
  have hbn : 18446744073709551616 ^ n ≤ wval Bw := by
    have h1 := digit_top (d := Bw) (n := n) hnB
    rw [W_get hnB] at hget
    rw [hget] at h1
    have : 1 * 18446744073709551616 ^ n ≤ top * 18446744073709551616 ^ n := Nat.mul_le_mul_right _ (by omega)
    omega
  have hD2 : wval Bw * 2 ^ s < 18446744073709551616 ^ Bw.length := by
    have h1 := wval_take Bw n
    rw [List.take_of_length_le (by omega)] at h1
    rw [W_get hnB] at hget
    rw [hget] at h1
    have h2 := take_lt hsB n
    have h3 : top < 2 ^ bitsN top := lt_bitsN top
    have h4 : wval Bw < 2 ^ bitsN top * 18446744073709551616 ^ n := by
      have : (top + 1) * 18446744073709551616 ^ n ≤ 2 ^ bitsN top * 18446744073709551616 ^ n := Nat.mul_le_mul_right _ h3
      rw [Nat.add_mul, Nat.one_mul, Nat.mul_comm top] at this
      omega
    have h5 : wval Bw * 2 ^ s < 2 ^ bitsN top * 18446744073709551616 ^ n * 2 ^ s := Nat.mul_lt_mul_of_pos_right h4 (Nat.two_pow_pos s)
    have h6 : 2 ^ bitsN top * 18446744073709551616 ^ n * 2 ^ s = 18446744073709551616 ^ Bw.length := by
      have hb64 : bitsN top ≤ 64 := bitsN_le htl
      rw [Nat.mul_right_comm, ← Nat.pow_add, show bitsN top + s = 64 by omega, hn, Nat.pow_succ, Nat.mul_comm]
      rfl
    omega
  have hDv := moved_low hD2
  have hsd : small ((movedL s 0 Bw).take Bw.length) := (movedL_small hs64 hsB (Nat.two_pow_pos s)).take _
  have hdl : ((movedL s 0 Bw).take Bw.length).length = n + 1 := by rw [List.length_take, movedL_len]; omega
  have hU0 := movedL_val s A 0
  have hsU : small (movedL s 0 A) := movedL_small hs64 hsA (Nat.two_pow_pos s)
  have hlU := movedL_len s A 0
  rw [Nat.add_zero] at hU0
  have hp2 := Nat.two_pow_pos s
  have hD0 : 18446744073709551616 ^ n * 2 ^ s ≤ wval Bw * 2 ^ s := Nat.mul_le_mul_right _ hbn
  have hDpos : 0 < wval Bw * 2 ^ s := Nat.lt_of_lt_of_le (Nat.mul_pos (Nat.pow_pos (by decide)) hp2) hD0
  simp only [← List.map_take]
  generalize hdd : (movedL s 0 Bw).take Bw.length = d at *
  generalize hUU : movedL s 0 A = u0 at *
  have hdtop : d.getD (d.length - 1) 0 ≠ 0 := by
    intro h0
    have h1 := wval_take d n
    have he : d.take (n + 1) = d := List.take_of_length_le (by omega)
    rw [he] at h1
    rw [hdl, Nat.add_sub_cancel] at h0
    rw [h0, Nat.mul_zero, Nat.add_zero] at h1
    have h2 := take_lt hsd n
    have h3 : 18446744073709551616 ^ n * 1 ≤ 18446744073709551616 ^ n * 2 ^ s := Nat.mul_le_mul_left _ hp2
    omega
  generalize hm : A.length - n = m at *
  have hstart : wval ((u0.drop m).take (n + 1)) < wval d := by
    have h1 := wval_seg (ws := u0) m (n + 1) (by omega)
    rw [List.take_of_length_le (by omega), hU0] at h1
    have h2 := wval_lt hsA
    have h3 : wval A * 2 ^ s < 18446744073709551616 ^ A.length * 2 ^ s := Nat.mul_lt_mul_of_pos_right h2 hp2
    rw [hDv]
    refine Nat.lt_of_lt_of_le ?_ hD0
    have h4 : 18446744073709551616 ^ A.length = 18446744073709551616 ^ m * 18446744073709551616 ^ n := by rw [← Nat.pow_add]; congr 1; omega
    rw [h4, Nat.mul_assoc] at h3
    have h5 : 18446744073709551616 ^ m * wval ((u0.drop m).take (n + 1)) < 18446744073709551616 ^ m * (18446744073709551616 ^ n * 2 ^ s) := by omega
    exact Nat.lt_of_mul_lt_mul_left h5
  have hdlt : wval d < 18446744073709551616 ^ (n + 1) := by rw [← hdl]; exact wval_lt hsd
  have htkall : u0.take (m + (n + 1)) = u0 := List.take_of_length_le (by omega)
  have hdB : d.length = Bw.length := by omega
  rw [show List.replicate m (V.d (.int .u64 0)) = uW (List.replicate m 0 ++ []) by simp [uW, U]]
  refine AW.loopT (α := Nat × List Nat × List Nat) 6 (fun s => [(12, .d (.int .i64 ((s.1 : Int) - 1)))]) (fun s => [(4, ⟨28, uW s.2.1⟩), (5, ⟨28, uW (List.replicate s.1 0 ++ s.2.2)⟩)]) (fun s => s.1 ≤ m ∧ s.2.1.length = A.length + 1 ∧ small s.2.1 ∧ s.2.2.length = m - s.1 ∧ small s.2.2 ∧ wval u0 = wval (s.2.1.take (s.1 + (n + 1))) + wval d * (18446744073709551616 ^ s.1 * wval s.2.2) ∧ wval ((s.2.1.drop s.1).take (n + 1)) < wval d) (fun s => s.1) (m, u0, []) ?_ ?_ ⟨Nat.le_refl _, hlU, hsU, by simp, small_nilN, by rw [htkall]; simp [wval], hstart⟩ ?_ ?_ ?_
  · simp
  · simp
  · simp
  · simp [uW_low]
  clear hstart hsU hlU
  rintro ⟨kk, ws, q⟩ ⟨hkm, hwl, hws, hql, hsq, hv, hlt⟩
  simp only at hkm hwl hws hql hsq hv hlt
  simp
  cases kk with
  | zero =>
    refine G0 ?_; try with_reducible exact tt
    refine AW.cond rfl (fun h => ?_) (fun h => ?_)
    · simp at h
    refine AW.exit ?_
    (try (simp -implicitDefEqProofs; try simp (disch := omega) only [w64, wu64]))
    rw [Nat.zero_add, Nat.pow_zero, Nat.one_mul] at hv
    rw [List.drop_zero] at hlt
    rw [Nat.sub_zero] at hql
    have hdp : 0 < wval d := by omega
    have hqv : wval q = wval u0 / wval d := by rw [hv, Nat.add_mul_div_left _ _ hdp, Nat.div_eq_of_lt hlt, Nat.zero_add]
    have hrv : wval (ws.take (n + 1)) = wval u0 % wval d := by rw [hv, Nat.add_mul_mod_self_left, Nat.mod_eq_of_lt hlt]
    obtain ⟨k1, k2⟩ := shifted_div (n := wval A) (y := wval Bw) (s := s)
    rw [hU0, hDv] at hqv hrv
    rw [k1] at hqv
    have ht1 := trimmed_ok q hsq (by omega)
    have ht2 := trimmed_ok (ws.take (n + 1)) (hws.take _) (by rw [List.length_take]; omega)
    have hl2 : (ws.take (n + 1)).length = n + 1 := by rw [List.length_take]; omega
    have hsz : size (wval (ws.take (n + 1))) ≤ 1000000 := Nat.le_trans (words_le (words_top _) (m := n + 1) (by rw [words_val]; have := wval_lt (hws.take (n + 1)); rw [hl2] at this; exact this)) (by omega)
    have ht3 := shr_ok (wval (ws.take (n + 1))) s hsz (by omega)
    rw [hrv, k2, ← hrv] at ht3
    rw [hqv] at ht1
    simp only [natW, W, hql, hl2] at ht1 ht2 ht3
    refine AW.freeze 4 1 ⟨28, uW ws⟩ (ws.map fun x : Nat => D.int .u64 x) (by rfl) (uW_d ws) ?_
    simp [frzs_uW]
    refine AW.freeze 5 1 ⟨28, uW q⟩ (q.map fun x : Nat => D.int .u64 x) (by rfl) (uW_d q) ?_
    have hqt : q.take m = q := List.take_of_length_le (by omega)
    have hwt : ws.take (A.length + 1) = ws := List.take_of_length_le (by omega)
    have hnAl : (Bw.length : Int) ≤ (A.length : Int) + 1 := by omega
    simp [frzs_uW, ← List.map_take, hqt, hwt]
    refine G1 hnAl ?_; try with_reducible exact tt
    refine CallS.pu (ht1) (R1 hnAl ?_); try with_reducible exact tt
    rw [← List.map_take, hn]
    refine CallS.pu (ht2) (R0 ?_); try with_reducible exact tt
    refine CallS.pu (ht3) (R0 ?_); try with_reducible exact tt
    rw [hvA, hvB]
    exact Sub1.refl _
  | succ k =>
    have hg0 : (0 : Int) ≤ k := by omega
    refine G1 hg0 ?_; try with_reducible exact tt
    refine AW.cond rfl (fun h => ?_) (fun h => ?_)
    rotate_left
    · simp at h
    have w1 : IntKind.i64.wrap ((k : Int) + Bw.length) = (k : Int) + Bw.length := w64 (by omega) (by omega)
    have w2 : IntKind.i64.wrap ((k : Int) + Bw.length + 1) = (k : Int) + Bw.length + 1 := w64 (by omega) (by omega)
    have w3 : ((k : Int) + Bw.length + 1).toNat - k = Bw.length + 1 := by omega
    have w4 : IntKind.i64.wrap ((k : Int) - 1) = (k : Int) - 1 := w64 (by omega) (by omega)
    have hc1 : (k : Int) ≤ (k : Int) + Bw.length + 1 := by omega
    have hc2 : (k : Int) + Bw.length + 1 ≤ (A.length : Int) + 1 := by omega
    have hseg := seg_cons (ws := ws) (k := k) (m := n + 1) (by omega)
    have hxk := hws.getD k
    have hS : wval ((ws.drop k).take (d.length + 1)) < wval d * 18446744073709551616 := by
      rw [hdl, hseg]; omega
    have hdig := digit_ok ws d k hws hsd (by omega) (by omega) (by omega) hdtop hS
    simp only [W] at hdig
    rw [hdB] at hdig hS
    obtain ⟨S, hSd⟩ : ∃ S, S = wval ((ws.drop k).take (Bw.length + 1)) := ⟨_, rfl⟩
    have hvs := wval_seg (ws := ws) k (Bw.length + 1) (by omega)
    rw [← hSd] at hdig hS hvs
    rw [show k + 1 + (n + 1) = k + (Bw.length + 1) by omega] at hv
    have hround := long_round (Bk := 18446744073709551616 ^ k) (S := S) (Q := wval q) (D := wval d) (W1 := wval (ws.take k)) (U0 := wval u0) (BQ := 18446744073709551616 ^ (k + 1) * wval q) (by rw [hv, ← hvs]) (by rw [Nat.pow_succ])
    have hdp : 0 < wval d := by omega
    have hmodl : S % wval d < wval d := Nat.mod_lt _ hdp
    have hlow := ovr_low (ws := ws) (k := k) (n := Bw.length) (x := S % wval d) (by omega) (by rw [hn]; exact Nat.lt_trans hmodl hdlt)
    have hwn := wordsN_len (Bw.length + 1) (S % wval d)
    have hwlen : (ovr ws k (wordsN (Bw.length + 1) (S % wval d))).length = ws.length := ovr_len (by omega)
    have hsm := ovr_small (k := k) hws (wordsN_small (Bw.length + 1) (S % wval d))
    have hseg2 := wval_seg (ws := ovr ws k (wordsN (Bw.length + 1) (S % wval d))) k Bw.length (by omega)
    rw [ovr_take (by omega), hlow] at hseg2
    have hqd : S / wval d < 18446744073709551616 := by rw [Nat.div_lt_iff_lt_mul hdp, Nat.mul_comm]; exact hS
    have hset : (uW (List.replicate (k + 1) 0 ++ q)).set k (.d (.int .u64 (S / wval d : Nat))) = uW (List.replicate k 0 ++ (S / wval d) :: q) := by rw [uW_set, rep_set]
    have hol : (uW (List.replicate (k + 1) 0 ++ q)).length = m := by rw [uW_length]; simp; omega
    generalize ovr ws k (wordsN (Bw.length + 1) (S % wval d)) = ws' at *
    generalize S / wval d = q0 at *
    refine G1 (fs w1 (fs w2 (fs w3 (fs hg0 (fs hc1 hc2))))) ?_; try with_reducible exact tt
    refine CallS.o1 4 (hdig) (hO := uW_plain _) (hO' := (uW_plain _)) (R1 (fs hol (fs hset w4)) ?_); try with_reducible exact tt
    refine ⟨k, ws', q0 :: q, ⟨by omega, by omega, hsm, by simp [hql]; omega, fun y hy => ?_, ?_, ?_⟩, by omega, by simp, ⟨Subs.refl _, uW_low _ _⟩, Subs.refl _, uW_low _ _⟩
    · rcases List.mem_cons.1 hy with rfl | hy
      · exact hqd
      · exact hsq y hy
    · rw [← hn, hseg2]; exact hround
    · rw [← hn, hlow]; exact hmodl
end
end Go.Proofs.YtijbgbpjionfjaaGreatDoor.Am
namespace Go.Proofs.YtijbgbpjionfjaaGreatDoor.Am
section
open Go.RowKit
theorem divmod_any (a b : Nat) (ha : size a ≤ 900000) (h0 : 0 < b) (hbs : size b ≤ 900000) : Eqn Tryz.prog n_nat_DivMod [.d (.agg [natW a]), .d (.agg [natW b])] [] (.tup [.d (.agg [natW (a / b)]), .d (.agg [natW (a % b)]), .d (.int .i64 0)]) [] := by
  by_cases hsm : b < 18446744073709551616 ∨ a < b
  · exact divmod_ok a b (by omega) h0 hsm (by omega)
  · have hb1 : 18446744073709551616 ≤ b := by omega
    have hab : b ≤ a := by omega
    refine Eqn.pure r_nat_DivMod (plain_tup3 _ _ _) ?_
    have hlong := long_ok a b hb1 hab ha
    have hz : (b == 0) = false := by simp; omega
    have hsz : 2 ≤ (words b).length := by
      rcases Nat.lt_or_ge (words b).length 2 with h | h
      · exfalso
        have := wval_lt (words_small b)
        rw [words_val] at this
        have h2 : 18446744073709551616 ^ (words b).length ≤ 18446744073709551616 ^ 1 := Nat.pow_le_pow_right (by decide) (by omega)
        omega
      · exact h
    obtain ⟨bn, bl, e', hbn⟩ : ∃ bn bl, natW b = .sl bn bl ∧ bn ≠ 1 := ⟨_, _, rfl, by omega⟩
    have hbn' : ¬ (bn : Int) = 1 := by omega
    have hcz : ¬ cmpZ a b < 0 := by rw [cmpZ_lt]; omega
    simp only [c_nat_DivMod]
    refine G0 ?_; try with_reducible exact tt
    refine CallS.pu (zero_ok b) (R0 ?_); try with_reducible exact tt
    refine AW.cond rfl (fun h => ?_) (fun h => ?_)
    · simp [hz] at h
    refine G0 ?_; try with_reducible exact tt
    refine CallS.pu (cmp_ok a b (by omega) (by omega)) (R1 hcz ?_); try with_reducible exact tt
    refine AW.cond rfl (fun h => ?_) (fun h => ?_)
    · simp [hcz] at h
    rw [e'] at hlong
    refine G1 (fs e' (fs hbn hbn')) ?_; try with_reducible exact tt
    refine AW.cond rfl (fun h => ?_) (fun h => ?_)
    · simp [hbn, hbn'] at h
    · refine G0 ?_; try with_reducible exact tt
      refine CallS.pu (hlong) (R0 ?_); try with_reducible exact tt

theorem gcd_any (a b : Nat) (ha : size a ≤ 900000) (hb : size b ≤ 900000) : Eqn Tryz.prog n_nat_Gcd [.d (.agg [natW a]), .d (.agg [natW b])] [] (.d (.agg [natW (Nat.gcd a b)])) [] := by
  refine Eqn.pure r_nat_Gcd (plain_d _) ?_
  simp only [c_nat_Gcd]
  refine G0 ?_; try with_reducible exact tt
  refine AW.loopT (α := Nat × Nat) 3 (fun _ => []) (fun p => [(0, ⟨47, [.d (natW p.1)]⟩), (1, ⟨47, [.d (natW p.2)]⟩)]) (fun p => size p.1 ≤ 900000 ∧ size p.2 ≤ 900000 ∧ Nat.gcd p.1 p.2 = Nat.gcd a b) (fun p => p.2) (a, b) ?_ ?_ ⟨ha, hb, rfl⟩ ?_ ?_ ?_
  · simp
  · simp
  · simp
  · simp
  rintro ⟨x, y⟩ ⟨hx, hy, hg⟩
  simp only at hx hy hg
  simp
  refine G0 ?_; try with_reducible exact tt
  refine CallS.pu (zero_ok y) (R0 ?_); try with_reducible exact tt
  by_cases h0 : y = 0
  · subst h0
    rw [Nat.gcd_zero_right] at hg
    subst hg
    refine AW.cond rfl (fun h => ?_) (fun h => ?_)
    · simp at h
    refine AW.exit ?_
    (try (simp -implicitDefEqProofs; try simp (disch := omega) only [w64, wu64]))
    refine G0 ?_; try with_reducible exact tt
    refine CallS.pu (of_ok (words (Nat.gcd a b)) (words_small _) (by unfold size at hx; omega)) (R0 ?_); try with_reducible exact tt
    refine Sub1.of ?_
    rw [words_val]
  · have hy0 : 0 < y := by omega
    refine AW.cond rfl (fun h => ?_) (fun h => ?_)
    · refine G0 ?_; try with_reducible exact tt
      refine CallS.pu (divmod_any x y hx hy0 hy) (R0 ?_); try with_reducible exact tt
      refine ⟨y, x % y, ⟨hy, Nat.le_trans (size_le (Nat.mod_le x y)) hx, ?_⟩, Nat.mod_lt _ hy0, Subs.refl _, ?_⟩
      · rw [← hg, Nat.gcd_comm x y, Nat.gcd_rec y x, Nat.gcd_comm]
      · exact Subs.refl _
    · simp at h
      exact absurd h h0
end
end Go.Proofs.YtijbgbpjionfjaaGreatDoor.Am
namespace Go.Proofs.YtijbgbpjionfjaaGreatDoor.Am
section
theorem mkRat_parts (z : Int) (d : Nat) (hd : 0 < d) : (mkRat z d).num.natAbs = z.natAbs / Nat.gcd z.natAbs d ∧ (mkRat z d).den = d / Nat.gcd z.natAbs d ∧ ((mkRat z d).num < 0 ↔ z < 0) := by
  have hg : 0 < Nat.gcd z.natAbs d := Nat.gcd_pos_of_pos_right _ hd
  rw [Rat.mkRat_def, dif_neg (by omega), Rat.normalize_eq]
  have hdv : ((Nat.gcd z.natAbs d : Nat) : Int) ∣ z := Int.ofNat_dvd_left.2 (Nat.gcd_dvd_left _ _)
  refine ⟨?_, rfl, ?_⟩
  · show (z / ((Nat.gcd z.natAbs d : Nat) : Int)).natAbs = _
    rw [Int.natAbs_ediv_of_dvd hdv, Int.natAbs_natCast]
  · show z / ((Nat.gcd z.natAbs d : Nat) : Int) < 0 ↔ z < 0
    obtain ⟨k, hk⟩ := hdv
    have hg' : 0 < ((Nat.gcd z.natAbs d : Nat) : Int) := by omega
    generalize ((Nat.gcd z.natAbs d : Nat) : Int) = g at *
    rw [hk, Int.mul_ediv_cancel_left _ (by omega)]
    constructor
    · intro h; exact Int.mul_neg_of_pos_of_neg hg' h
    · intro h
      rcases Int.lt_or_le k 0 with h1 | h1
      · exact h1
      · have := Int.mul_nonneg (Int.le_of_lt hg') h1; omega
theorem rat_add (x y : Rat) : x + y = mkRat (x.num * y.den + y.num * x.den) (x.den * y.den) := Rat.add_def' x y
theorem rat_mul (x y : Rat) : x * y = mkRat (x.num * y.num) (x.den * y.den) := Rat.mul_def' x y
theorem rat_lt (x y : Rat) : x < y ↔ x.num * y.den < y.num * x.den := Rat.lt_iff x y
end
end Go.Proofs.YtijbgbpjionfjaaGreatDoor.Am
namespace Go.Proofs.YtijbgbpjionfjaaGreatDoor.Am
section
open Go.RowKit
/-- whole numbers, fractions -/
def wD (z : Int) : D := .agg [natW z.natAbs, .bool (decide (z < 0))]
def rD (q : Rat) : D := .agg [natW q.num.natAbs, .bool (decide (q.num < 0)), natW (q.den - 1)]

theorem size_mulR (a b : Nat) : size (a * b) ≤ size a + size b := by
  refine words_le (words_top _) ?_
  rw [words_val, Nat.pow_add]
  have ha := wval_lt (words_small a)
  have hb := wval_lt (words_small b)
  rw [words_val] at ha hb
  unfold size
  exact Nat.mul_lt_mul'' ha hb
theorem size_addR (a b : Nat) : size (a + b) ≤ max (size a) (size b) + 1 := by
  refine words_le (words_top _) ?_
  rw [words_val, Nat.pow_succ]
  have ha := wval_lt (words_small a)
  have hb := wval_lt (words_small b)
  rw [words_val] at ha hb
  have h1 : 18446744073709551616 ^ (words a).length ≤ 18446744073709551616 ^ max (size a) (size b) := Nat.pow_le_pow_right (by decide) (Nat.le_max_left _ _)
  have h2 : 18446744073709551616 ^ (words b).length ≤ 18446744073709551616 ^ max (size a) (size b) := Nat.pow_le_pow_right (by decide) (Nat.le_max_right _ _)
  omega

/-- a difference that isn't: less by more -/
theorem sub_more (m n : Nat) (hm : size m ≤ 1000000) (hn : size n ≤ 1000000) (hlt : m < n) : Eqn Tryz.prog n_nat_Sub [.d (.agg [natW m]), .d (.agg [natW n])] [] (.tup [.d (.agg [.nilsl]), .d (.int .i64 2)]) [] := by
  refine Eqn.pure r_nat_Sub Plain.ok ?_
  have hc := cmp_ok m n hm hn
  have hlt' : cmpZ m n < 0 := cmpZ_lt.2 hlt
  simp only [c_nat_Sub]
  refine G0 ?_; try with_reducible exact tt
  refine CallS.pu (hc) (R1 hlt' ?_); try with_reducible exact tt
  refine AW.cond rfl (fun h => ?_) (fun h => ?_)
  · refine G0 ?_; try with_reducible exact tt
  · simp [hlt'] at h

theorem wmakeB_ok (s : Bool) (a : Nat) : Eqn Tryz.prog n_whole_Make [.d (.bool s), .d (.agg [natW a])] [] (.d (.agg [natW a, .bool (s && decide (a ≠ 0))])) [] := by
  refine Eqn.pure r_whole_Make Plain.ok ?_
  have hz := zero_ok a
  simp only [c_whole_Make]
  cases s with
  | true =>
    refine G0 ?_; try with_reducible exact tt
    refine CallS.pu (hz) (R0 ?_); try with_reducible exact tt
    refine Sub1.of ?_
    simp
    cases a <;> rfl
  | false =>
    refine G0 ?_; try with_reducible exact tt
theorem wmake_int (s : Bool) (a : Nat) (z : Int) (hz : z = if s then -(a : Int) else a) : Eqn Tryz.prog n_whole_Make [.d (.bool s), .d (.agg [natW a])] [] (.d (wD z)) [] := by
  have h := wmakeB_ok s a
  have e : D.agg [natW a, .bool (s && decide (a ≠ 0))] = wD z := by
    subst hz
    unfold wD
    cases s with
    | true =>
      simp only [if_true, Int.natAbs_neg, Int.natAbs_natCast, Bool.true_and]
      congr 4
      rw [decide_eq_decide]; omega
    | false =>
      simp only [Bool.false_and, Int.natAbs_natCast, Bool.false_eq_true, if_false]
      congr 4
  rw [e] at h
  exact h
theorem wabs_ok (z : Int) : Eqn Tryz.prog n_whole_Whole_Abs [.d (wD z)] [] (.d (.agg [natW z.natAbs])) [] := abs_ok _ _
theorem wneg_ok (z : Int) : Eqn Tryz.prog n_whole_Whole_Neg [.d (wD z)] [] (.d (.bool (decide (z < 0)))) [] := neg_ok _ _

theorem wmul_int (x y : Int) (hx : size x.natAbs ≤ 400000) (hy : size y.natAbs ≤ 400000) : Eqn Tryz.prog n_whole_Mul [.d (wD x), .d (wD y)] [] (.d (wD (x * y))) [] := by
  refine Eqn.pure r_whole_Mul (plain_d _) ?_
  have hm := mul_ok x.natAbs y.natAbs (by omega) (by omega)
  have hk := fun s h => wmake_int s (x.natAbs * y.natAbs) (x * y) h
  simp only [c_whole_Mul, wD] at hk ⊢
  refine G0 ?_; try with_reducible exact tt
  refine CallS.pu (hm) (R0 ?_); try with_reducible exact tt
  have e : x * y = if (decide (x < 0) != decide (y < 0)) = true then -((x.natAbs * y.natAbs : Nat) : Int) else ((x.natAbs * y.natAbs : Nat) : Int) := by
    rw [Int.natCast_mul]
    by_cases h1 : x < 0 <;> by_cases h2 : y < 0 <;> simp only [h1, h2, decide_true, decide_false]
    · rw [if_neg (by decide), Int.ofNat_natAbs_of_nonpos (by omega), Int.ofNat_natAbs_of_nonpos (by omega), Int.neg_mul_neg]
    · rw [if_pos (by decide), Int.ofNat_natAbs_of_nonpos (by omega), Int.natAbs_of_nonneg (by omega), Int.neg_mul, Int.neg_neg]
    · rw [if_pos (by decide), Int.ofNat_natAbs_of_nonpos (a := y) (by omega), Int.natAbs_of_nonneg (by omega), Int.mul_neg, Int.neg_neg]
    · rw [if_neg (by decide), Int.natAbs_of_nonneg (by omega), Int.natAbs_of_nonneg (by omega)]
  replace hk := hk _ e
  refine CallS.pu (hk) (R0 ?_); try with_reducible exact tt

theorem wminus_int (x : Int) : Eqn Tryz.prog n_whole_Minus [.d (wD x)] [] (.d (wD (-x))) [] := by
  refine Eqn.pure r_whole_Minus (plain_d _) ?_
  have hk := wmake_int (!decide (x < 0)) x.natAbs (-x) (by
    by_cases h : x < 0
    · simp only [h, decide_true, Bool.not_true, Bool.false_eq_true, if_false]; omega
    · simp only [h, decide_false, Bool.not_false, if_true]; omega)
  simp only [c_whole_Minus, wD] at hk ⊢
  refine G0 ?_; try with_reducible exact tt
  refine CallS.pu (hk) (R0 ?_); try with_reducible exact tt

theorem wadd_int (x y : Int) (hx : size x.natAbs ≤ 400000) (hy : size y.natAbs ≤ 400000) : Eqn Tryz.prog n_whole_Add [.d (wD x), .d (wD y)] [] (.d (wD (x + y))) [] := by
  refine Eqn.pure r_whole_Add (plain_d _) ?_
  by_cases hs : decide (x < 0) = decide (y < 0)
  · have ha := add_ok x.natAbs y.natAbs (by omega) (by omega)
    have hk := wmake_int (decide (x < 0)) (x.natAbs + y.natAbs) (x + y) (by
      rw [decide_eq_decide] at hs
      by_cases h : x < 0
      · rw [if_pos (by simpa using h)]; omega
      · rw [if_neg (by simpa using h)]; omega)
    simp only [c_whole_Add, wD] at hk ⊢
    generalize decide (x < 0) = sx at *
    generalize decide (y < 0) = sy at *
    subst hs
    refine G0 ?_; try with_reducible exact tt
    refine AW.cond rfl (fun h => ?_) (fun h => ?_)
    · refine G0 ?_; try with_reducible exact tt
      refine CallS.pu (ha) (R0 ?_); try with_reducible exact tt
      refine CallS.pu (hk) (R0 ?_); try with_reducible exact tt
    · simp at h
  · have hs' : ¬ (x < 0 ↔ y < 0) := fun h => hs (decide_eq_decide.2 h)
    by_cases hle : y.natAbs ≤ x.natAbs
    · have ha := sub_ok x.natAbs y.natAbs (by omega) hle
      have hk := wmake_int (decide (x < 0)) (x.natAbs - y.natAbs) (x + y) (by
        by_cases h : x < 0
        · rw [if_pos (by simpa using h)]; omega
        · rw [if_neg (by simpa using h)]; omega)
      simp only [c_whole_Add, wD] at hk ⊢
      generalize decide (x < 0) = sx at *
      generalize decide (y < 0) = sy at *
      have hs2 : (sx == sy) = false := by simpa using hs
      refine G1 (fs hs2 hs) ?_; try with_reducible exact tt
      refine AW.cond rfl (fun h => ?_) (fun h => ?_)
      · simp [hs2, hs] at h
      · refine G0 ?_; try with_reducible exact tt
        refine CallS.pu (ha) (R0 ?_); try with_reducible exact tt
        refine AW.cond rfl (fun h => ?_) (fun h => ?_)
        · refine G0 ?_; try with_reducible exact tt
          refine CallS.pu (hk) (R0 ?_); try with_reducible exact tt
        · simp at h
    · have hb := sub_more x.natAbs y.natAbs (by omega) (by omega) (by omega)
      have ha := sub_ok y.natAbs x.natAbs (by omega) (by omega)
      have hk := wmake_int (decide (y < 0)) (y.natAbs - x.natAbs) (x + y) (by
        by_cases h : y < 0
        · rw [if_pos (by simpa using h)]; omega
        · rw [if_neg (by simpa using h)]; omega)
      simp only [c_whole_Add, wD] at hk ⊢
      generalize decide (x < 0) = sx at *
      generalize decide (y < 0) = sy at *
      have hs2 : (sx == sy) = false := by simpa using hs
      refine G1 (fs hs2 hs) ?_; try with_reducible exact tt
      refine AW.cond rfl (fun h => ?_) (fun h => ?_)
      · simp [hs2, hs] at h
      · refine G0 ?_; try with_reducible exact tt
        refine CallS.pu (hb) (R0 ?_); try with_reducible exact tt
        refine AW.cond rfl (fun h => ?_) (fun h => ?_)
        · simp at h
        · refine G0 ?_; try with_reducible exact tt
          refine CallS.pu (ha) (R0 ?_); try with_reducible exact tt
          refine CallS.pu (hk) (R0 ?_); try with_reducible exact tt

/-- less, the same, more -/
def cmpI (x y : Int) : Int := if x < y then -1 else if y < x then 1 else 0
theorem wcmp_int (x y : Int) (hx : size x.natAbs ≤ 900000) (hy : size y.natAbs ≤ 900000) : Eqn Tryz.prog n_whole_Cmp [.d (wD x), .d (wD y)] [] (.d (.int .i64 (cmpI x y))) [] := by
  refine Eqn.pure r_whole_Cmp (plain_d _) ?_
  have h1 := cmp_ok y.natAbs x.natAbs (by omega) (by omega)
  have h2 := cmp_ok x.natAbs y.natAbs (by omega) (by omega)
  simp only [c_whole_Cmp, wD]
  by_cases hx0 : x < 0 <;> by_cases hy0 : y < 0
  · have e : cmpI x y = cmpZ y.natAbs x.natAbs := by
      unfold cmpI cmpZ
      split <;> split <;> first | omega | (split <;> omega)
    rw [← e] at h1
    simp only [hx0, hy0, decide_true, decide_false]
    refine G0 ?_; try with_reducible exact tt
    refine AW.cond rfl (fun h => ?_) (fun h => ?_)
    · refine G0 ?_; try with_reducible exact tt
      refine CallS.pu (h1) (R0 ?_); try with_reducible exact tt
    · simp at h
  · have e : cmpI x y = -1 := by unfold cmpI; rw [if_pos (by omega)]
    rw [e]
    simp only [hx0, hy0, decide_true, decide_false]
    refine G0 ?_; try with_reducible exact tt
    refine AW.cond rfl (fun h => ?_) (fun h => ?_)
    · simp at h
    refine G0 ?_; try with_reducible exact tt
    refine AW.cond rfl (fun h => ?_) (fun h => ?_)
    · refine G0 ?_; try with_reducible exact tt
    · simp at h
  · have e : cmpI x y = 1 := by unfold cmpI; rw [if_neg (by omega), if_pos (by omega)]
    rw [e]
    simp only [hx0, hy0, decide_true, decide_false]
    refine G0 ?_; try with_reducible exact tt
    refine AW.cond rfl (fun h => ?_) (fun h => ?_)
    · simp at h
    refine G0 ?_; try with_reducible exact tt
    refine AW.cond rfl (fun h => ?_) (fun h => ?_)
    · simp at h
    refine G0 ?_; try with_reducible exact tt
    refine AW.cond rfl (fun h => ?_) (fun h => ?_)
    · refine G0 ?_; try with_reducible exact tt
    · simp at h
  · have e : cmpI x y = cmpZ x.natAbs y.natAbs := by
      unfold cmpI cmpZ
      split <;> split <;> first | omega | (split <;> omega)
    rw [← e] at h2
    simp only [hx0, hy0, decide_true, decide_false]
    refine G0 ?_; try with_reducible exact tt
    refine AW.cond rfl (fun h => ?_) (fun h => ?_)
    · simp at h
    refine G0 ?_; try with_reducible exact tt
    refine AW.cond rfl (fun h => ?_) (fun h => ?_)
    · simp at h
    refine G0 ?_; try with_reducible exact tt
    refine AW.cond rfl (fun h => ?_) (fun h => ?_)
    · simp at h
    refine G0 ?_; try with_reducible exact tt
    refine CallS.pu (h2) (R0 ?_); try with_reducible exact tt
end
end Go.Proofs.YtijbgbpjionfjaaGreatDoor.Am
namespace Go.Proofs.YtijbgbpjionfjaaGreatDoor.Am
section
open Go.RowKit
theorem made_int (z : Int) (d : Nat) (hd : 0 < d) (hz : size z.natAbs ≤ 900000) (hds : size d ≤ 900000) : Eqn Tryz.prog n_rat_made [.d (wD z), .d (.agg [natW d])] [] (.d (rD (mkRat z d))) [] := by
  refine Eqn.pure r_rat_made (plain_d _) ?_
  obtain ⟨p1, p2, p3⟩ := mkRat_parts z d hd
  have hg0 : 0 < Nat.gcd z.natAbs d := Nat.gcd_pos_of_pos_right _ hd
  have hgs : size (Nat.gcd z.natAbs d) ≤ 900000 := Nat.le_trans (size_le (Nat.gcd_le_right _ hd)) hds
  have h1 := gcd_any z.natAbs d hz hds
  have h2 := divmod_any z.natAbs (Nat.gcd z.natAbs d) hz hg0 hgs
  have h3 := divmod_any d (Nat.gcd z.natAbs d) hds hg0 hgs
  have hdp : 0 < d / Nat.gcd z.natAbs d := Nat.div_pos (Nat.gcd_le_right _ hd) hg0
  have hdq : size (d / Nat.gcd z.natAbs d) ≤ 900000 := Nat.le_trans (size_le (Nat.div_le_self _ _)) hds
  have h4 := sub_ok (d / Nat.gcd z.natAbs d) 1 (by omega) hdp
  have hab := wabs_ok z
  have hng := wneg_ok z
  have hk := wmakeB_ok (decide (z < 0)) (z.natAbs / Nat.gcd z.natAbs d)
  have hsg : (decide (z < 0) && decide (z.natAbs / Nat.gcd z.natAbs d ≠ 0)) = decide ((mkRat z d).num < 0) := by
    rw [Bool.eq_iff_iff]
    simp only [Bool.and_eq_true, decide_eq_true_eq, p3]
    rw [← p1]
    constructor
    · intro h; exact h.1
    · intro h
      have := p3.2 h
      exact ⟨h, by omega⟩
  rw [hsg, ← p1] at hk
  rw [← p1] at h2
  rw [← p2] at h3 h4
  simp only [c_rat_made, rD, wD] at hab hng ⊢
  refine G0 ?_; try with_reducible exact tt
  refine CallS.pu (hab) (R0 ?_); try with_reducible exact tt
  refine CallS.pu (h1) (R0 ?_); try with_reducible exact tt
  refine CallS.pu (hab) (R0 ?_); try with_reducible exact tt
  refine CallS.pu (h2) (R0 ?_); try with_reducible exact tt
  refine CallS.pu (h3) (R0 ?_); try with_reducible exact tt
  refine CallS.pf 8 1 ⟨28, _⟩ [.int .u64 (1 : Nat)] (of_ok [1] (small_one (by omega)) (by simp)) (by first | rfl | (simp; done)) (R0 ?_); try with_reducible exact tt
  refine CallS.pu (h4) (R0 ?_); try with_reducible exact tt
  refine CallS.pu (hng) (R0 ?_); try with_reducible exact tt
  refine CallS.pu (hk) (R0 ?_); try with_reducible exact tt

theorem rden_int (q : Rat) (h : size q.den ≤ 900000) : Eqn Tryz.prog n_rat_Rat_Den [.d (rD q)] [] (.d (.agg [natW q.den])) [] := by
  have hp := q.den_pos
  have := rden_ok q.num.natAbs (q.den - 1) (decide (q.num < 0)) (Nat.le_trans (size_le (Nat.sub_le _ _)) (by omega))
  rw [show q.den - 1 + 1 = q.den by omega] at this
  exact this
theorem rdenw_int (q : Rat) (h : size q.den ≤ 900000) : Eqn Tryz.prog n_rat_Rat_den [.d (rD q)] [] (.d (wD q.den)) [] := by
  refine Eqn.pure r_rat_Rat_den (plain_d _) ?_
  have h1 := rden_int q h
  have h2 := wmake_int false q.den (q.den : Int) rfl
  simp only [c_rat_Rat_den, rD, wD] at h1 h2 ⊢
  refine G0 ?_; try with_reducible exact tt
  refine CallS.pu (h1) (R0 ?_); try with_reducible exact tt
  refine CallS.pu (h2) (R0 ?_); try with_reducible exact tt

/-- a fraction of so many words at most -/
def RS (q : Rat) (N : Nat) : Prop := size q.num.natAbs ≤ N ∧ size q.den ≤ N
theorem RS.le {q : Rat} {N M : Nat} (h : RS q N) (hm : N ≤ M) : RS q M := ⟨Nat.le_trans h.1 hm, Nat.le_trans h.2 hm⟩
theorem RS.mk' {z : Int} {d N : Nat} (hd : 0 < d) (h1 : size z.natAbs ≤ N) (h2 : size d ≤ N) : RS (mkRat z d) N := by
  obtain ⟨p1, p2, -⟩ := mkRat_parts z d hd
  refine ⟨?_, ?_⟩
  · rw [p1]; exact Nat.le_trans (size_le (Nat.div_le_self _ _)) h1
  · rw [p2]; exact Nat.le_trans (size_le (Nat.div_le_self _ _)) h2
theorem RS.mul {x y : Rat} {N M : Nat} (hx : RS x N) (hy : RS y M) : RS (x * y) (N + M) := by
  rw [rat_mul]
  refine RS.mk' (Nat.mul_pos x.den_pos y.den_pos) ?_ ?_
  · rw [Int.natAbs_mul]; have := size_mulR x.num.natAbs y.num.natAbs; have := hx.1; have := hy.1; omega
  · have := size_mulR x.den y.den; have := hx.2; have := hy.2; omega
theorem RS.add {x y : Rat} {N M : Nat} (hx : RS x N) (hy : RS y M) : RS (x + y) (N + M + 1) := by
  rw [rat_add]
  refine RS.mk' (Nat.mul_pos x.den_pos y.den_pos) ?_ ?_
  · have h1 := size_le (Int.natAbs_add_le (x.num * y.den) (y.num * x.den))
    have h2 := size_addR (x.num * y.den).natAbs (y.num * x.den).natAbs
    rw [Int.natAbs_mul, Int.natAbs_mul, Int.natAbs_natCast, Int.natAbs_natCast] at *
    have h3 := size_mulR x.num.natAbs y.den
    have h4 := size_mulR y.num.natAbs x.den
    have := hx.1; have := hy.1; have := hx.2; have := hy.2
    omega
  · have := size_mulR x.den y.den; have := hx.2; have := hy.2; omega
theorem RS.neg {x : Rat} {N : Nat} (hx : RS x N) : RS (-x) N := by
  refine ⟨?_, ?_⟩
  · rw [Rat.neg_num, Int.natAbs_neg]; exact hx.1
  · rw [Rat.neg_den]; exact hx.2
theorem RS.sub {x y : Rat} {N M : Nat} (hx : RS x N) (hy : RS y M) : RS (x - y) (N + M + 1) := by
  rw [Rat.sub_eq_add_neg]; exact hx.add hy.neg

theorem rmul_int (x y : Rat) (hx : RS x 100000) (hy : RS y 100000) : Eqn Tryz.prog n_rat_Mul [.d (rD x), .d (rD y)] [] (.d (rD (x * y))) [] := by
  refine Eqn.pure r_rat_Mul (plain_d _) ?_
  have h1 := wmul_int x.num y.num (by have := hx.1; omega) (by have := hy.1; omega)
  have h2 := rden_int x (by have := hx.2; omega)
  have h3 := rden_int y (by have := hy.2; omega)
  have h4 := mul_ok x.den y.den (by have := hx.2; omega) (by have := hy.2; omega)
  have h5 := made_int (x.num * y.num) (x.den * y.den) (Nat.mul_pos x.den_pos y.den_pos) (by rw [Int.natAbs_mul]; have := size_mulR x.num.natAbs y.num.natAbs; have := hx.1; have := hy.1; omega) (by have := size_mulR x.den y.den; have := hx.2; have := hy.2; omega)
  rw [← rat_mul] at h5
  simp only [c_rat_Mul, rD, wD] at h1 h2 h3 h5 ⊢
  refine G0 ?_; try with_reducible exact tt
  refine CallS.pu (h1) (R0 ?_); try with_reducible exact tt
  refine CallS.pu (h2) (R0 ?_); try with_reducible exact tt
  refine CallS.pu (h3) (R0 ?_); try with_reducible exact tt
  refine CallS.pu (h4) (R0 ?_); try with_reducible exact tt
  refine CallS.pu (h5) (R0 ?_); try with_reducible exact tt

theorem radd_rat (x y : Rat) (hx : RS x 100000) (hy : RS y 100000) : Eqn Tryz.prog n_rat_Add [.d (rD x), .d (rD y)] [] (.d (rD (x + y))) [] := by
  refine Eqn.pure r_rat_Add (plain_d _) ?_
  have x1 := hx.1; have x2 := hx.2; have y1 := hy.1; have y2 := hy.2
  have s1 := size_mulR x.num.natAbs y.den
  have s2 := size_mulR y.num.natAbs x.den
  have e1 : (x.num * (y.den : Int)).natAbs = x.num.natAbs * y.den := by rw [Int.natAbs_mul, Int.natAbs_natCast]
  have e2 : (y.num * (x.den : Int)).natAbs = y.num.natAbs * x.den := by rw [Int.natAbs_mul, Int.natAbs_natCast]
  have h1 := wmul_int x.num y.den (by omega) (by rw [Int.natAbs_natCast]; omega)
  have h1' := wmul_int y.num x.den (by omega) (by rw [Int.natAbs_natCast]; omega)
  have h2 := rden_int x (by omega)
  have h3 := rden_int y (by omega)
  have h2' := rdenw_int x (by omega)
  have h3' := rdenw_int y (by omega)
  have h4 := mul_ok x.den y.den (by omega) (by omega)
  have h6 := wadd_int (x.num * y.den) (y.num * x.den) (by rw [e1]; omega) (by rw [e2]; omega)
  have h5 := made_int (x.num * y.den + y.num * x.den) (x.den * y.den) (Nat.mul_pos x.den_pos y.den_pos) (by
    have h1 := size_le (Int.natAbs_add_le (x.num * y.den) (y.num * x.den))
    have h2 := size_addR (x.num * y.den).natAbs (y.num * x.den).natAbs
    rw [e1, e2] at *
    omega) (by have := size_mulR x.den y.den; omega)
  rw [← rat_add] at h5
  simp only [c_rat_Add, rD] at h2 h3 h2' h3' h5 ⊢
  generalize hz1 : x.num * (y.den : Int) = z1 at *
  generalize hz2 : y.num * (x.den : Int) = z2 at *
  simp only [wD] at h1 h1' h2' h3' h5 h6
  refine G0 ?_; try with_reducible exact tt
  refine CallS.pu (h3') (R0 ?_); try with_reducible exact tt
  refine CallS.pu (h1) (R0 ?_); try with_reducible exact tt
  refine CallS.pu (h2') (R0 ?_); try with_reducible exact tt
  refine CallS.pu (h1') (R0 ?_); try with_reducible exact tt
  refine CallS.pu (h6) (R0 ?_); try with_reducible exact tt
  refine CallS.pu (h2) (R0 ?_); try with_reducible exact tt
  refine CallS.pu (h3) (R0 ?_); try with_reducible exact tt
  refine CallS.pu (h4) (R0 ?_); try with_reducible exact tt
  refine CallS.pu (h5) (R0 ?_); try with_reducible exact tt

theorem rsub_rat (x y : Rat) (hx : RS x 100000) (hy : RS y 100000) : Eqn Tryz.prog n_rat_Sub [.d (rD x), .d (rD y)] [] (.d (rD (x - y))) [] := by
  refine Eqn.pure r_rat_Sub (plain_d _) ?_
  have h1 := wminus_int y.num
  have h2 := radd_rat x (-y) hx hy.neg
  rw [← Rat.sub_eq_add_neg] at h2
  simp only [c_rat_Sub, rD, wD, Rat.neg_num, Rat.neg_den] at h1 h2 ⊢
  obtain ⟨w, hw⟩ : ∃ w, D.bool (decide (-y.num < 0)) = w := ⟨_, rfl⟩
  obtain ⟨u, hu⟩ : ∃ u, natW (-y.num).natAbs = u := ⟨_, rfl⟩
  rw [hu, hw] at h1 h2
  clear hu hw
  refine G0 ?_; try with_reducible exact tt
  refine CallS.pu (h1) (R0 ?_); try with_reducible exact tt
  refine CallS.pu (h2) (R0 ?_); try with_reducible exact tt

/-- less, the same, more -/
def cmpQ (x y : Rat) : Int := if x < y then -1 else if y < x then 1 else 0
theorem rcmp_rat (x y : Rat) (hx : RS x 100000) (hy : RS y 100000) : Eqn Tryz.prog n_rat_Cmp [.d (rD x), .d (rD y)] [] (.d (.int .i64 (cmpQ x y))) [] := by
  refine Eqn.pure r_rat_Cmp (plain_d _) ?_
  have x1 := hx.1; have x2 := hx.2; have y1 := hy.1; have y2 := hy.2
  have s1 := size_mulR x.num.natAbs y.den
  have s2 := size_mulR y.num.natAbs x.den
  have e1 : (x.num * (y.den : Int)).natAbs = x.num.natAbs * y.den := by rw [Int.natAbs_mul, Int.natAbs_natCast]
  have e2 : (y.num * (x.den : Int)).natAbs = y.num.natAbs * x.den := by rw [Int.natAbs_mul, Int.natAbs_natCast]
  have h1 := wmul_int x.num y.den (by omega) (by rw [Int.natAbs_natCast]; omega)
  have h1' := wmul_int y.num x.den (by omega) (by rw [Int.natAbs_natCast]; omega)
  have h2' := rdenw_int x (by omega)
  have h3' := rdenw_int y (by omega)
  have h6 := wcmp_int (x.num * y.den) (y.num * x.den) (by rw [e1]; omega) (by rw [e2]; omega)
  have e : cmpI (x.num * y.den) (y.num * x.den) = cmpQ x y := by
    have a := rat_lt x y
    have b := rat_lt y x
    unfold cmpI cmpQ
    by_cases h : x < y
    · rw [if_pos h, if_pos (a.1 h)]
    · rw [if_neg h, if_neg (fun q => h (a.2 q))]
      by_cases h2 : y < x
      · rw [if_pos h2, if_pos (b.1 h2)]
      · rw [if_neg h2, if_neg (fun q => h2 (b.2 q))]
  rw [e] at h6
  simp only [c_rat_Cmp, rD] at h2' h3' ⊢
  generalize hz1 : x.num * (y.den : Int) = z1 at *
  generalize hz2 : y.num * (x.den : Int) = z2 at *
  simp only [wD] at h1 h1' h2' h3' h6
  refine G0 ?_; try with_reducible exact tt
  refine CallS.pu (h3') (R0 ?_); try with_reducible exact tt
  refine CallS.pu (h1) (R0 ?_); try with_reducible exact tt
  refine CallS.pu (h2') (R0 ?_); try with_reducible exact tt
  refine CallS.pu (h1') (R0 ?_); try with_reducible exact tt
  refine CallS.pu (h6) (R0 ?_); try with_reducible exact tt

theorem nil_sub {I : Nat → Prop} {w : World} {v : Value} (h : D.rep I w .nilsl v) : D.rep I w (natW 0) v := by
  have := Sub1.nil (⟨fun _ => none, I, w⟩ : Mem) v (by rw [V.rep_d]; exact h)
  rw [V.rep_d] at this
  exact this
theorem Sub1.rat0 {x y : D} : Sub1 (.d (.agg [x, y, .nilsl])) (.d (.agg [x, y, natW 0])) := fun m v k => by
  rw [V.rep_d] at k ⊢
  unfold D.rep at k ⊢
  obtain ⟨vs, h1, h0, h2⟩ := k
  refine ⟨vs, h1, h0, ?_⟩
  obtain ⟨a, r, rfl, ha, h2⟩ := D.reps_cons'.1 h2
  obtain ⟨b, r, rfl, hb, h2⟩ := D.reps_cons'.1 h2
  obtain ⟨c, r, rfl, hc, h2⟩ := D.reps_cons'.1 h2
  exact D.reps_cons.2 ⟨ha, D.reps_cons.2 ⟨hb, D.reps_cons.2 ⟨nil_sub hc, h2⟩⟩⟩
theorem rnat_rat (n : Nat) : Eqn Tryz.prog n_rat_Nat [.d (.agg [natW n])] [] (.d (rD (n : Rat))) [] := by
  refine Eqn.pure r_rat_Nat (plain_d _) ?_
  have h1 := wmake_int false n (n : Int) rfl
  have e : rD (n : Rat) = .agg [natW n, .bool false, natW 0] := by
    unfold rD
    rw [Rat.num_natCast, Rat.den_natCast, Int.natAbs_natCast]
    congr 4
  rw [e]
  have e2 : wD (n : Int) = .agg [natW n, .bool false] := by
    unfold wD
    rw [Int.natAbs_natCast]
    congr 4
  rw [e2] at h1
  simp only [c_rat_Nat]
  refine G0 ?_; try with_reducible exact tt
  refine CallS.pu (h1) (R0 ?_); try with_reducible exact tt
  exact Sub1.rat0
end
end Go.Proofs.YtijbgbpjionfjaaGreatDoor.Am
