/- Parts of the proof: Pack2, Carr1, Carr2, Carr3, Carr6, AmUn, Cms1, HashM, Mul1, Hash1, FlatM, Cms2, Cms3, Div1, Mul2, Rat2, DivN, Nat8, Nat9, Nat10, Rat3, RatQ, Rat4, Rat5, Pow1, Pow2, Float3, Rise1, Val1, Val2, Reg5, ChainG, ChainH, AmLaw, Reg6, Val3, Rise2, ValM, Cms4, Cms5, Cms6, Cms7, Carr7, AmLB, Carr4, Carr8, Carr9, CarrA, CarrB, Cms8, Cms9, CmsA. -/
import Derived.Test.YtijbgbpjionfjaaGreatDoorPe
set_option linter.unusedVariables false
set_option linter.unusedSimpArgs false
set_option maxRecDepth 100000
namespace Go.Proofs.YtijbgbpjionfjaaGreatDoor.Am
section
open Go.RowKit
set_option maxHeartbeats 1000000 in
theorem o_tp (w : Nat) (xs : List Nat) (i v : Nat) (hi : i < xs.length) (hn : xs.length ≤ 256) (hw0 : 0 < w) (hw : w ≤ 32) (hv : v < 2 ^ w) : Eqn Tryz.prog o_ey [.p 0 0, .d (.int .i64 i), .d (.int .u64 v)] [vecO 1 xs.length w, vecB w xs] (.d (.int .i64 0)) [vecO 1 xs.length w, vecB w (xs.set i v)] := by
 refine Eqn.gen [0, 1] o_nu (by simp) (by simp) (by rfl) (by decide) (by simp) (by simp [vecO, vecB]) ?_
 have hpl := o_iq w xs i hi hn hw
 have hma := fun N L n => o_ir w N L n hw
 have g1 : ¬ (i : Int) < 0 := by omega
 have g2 : ¬ (xs.length : Int) ≤ i := by omega
 have e := Nat.div_add_mod (i * w) 64
 have hm64 : i * w % 64 < 64 := Nat.mod_lt _ (by omega)
 have hle : i * w + w ≤ xs.length * w := by rw [← Nat.succ_mul]; exact Nat.mul_le_mul_right w hi
 have hq : i * w / 64 < (wordsP w xs).length := by rw [o_1y]; unfold nwP; omega
 have hq2 : 64 < i * w % 64 + w → i * w / 64 + 1 < (wordsP w xs).length := by intro h; rw [o_1y]; unfold nwP; omega
 have hx1 := o_y (w := w) (xs := xs) (i * w / 64)
 have hx2 := o_y (w := w) (xs := xs) (i * w / 64 + 1)
 have hp1 := pset1 (xs := xs) (i := i) hw hw0 hi hv
 have hp2 := pset2 (xs := xs) (i := i) hw hi hv
 have hqb : i * w / 64 ≤ 1000 := by have : i * w ≤ 256 * 32 := Nat.mul_le_mul (by omega) hw; omega
 have hg1 := o_in hq
 have hg2 := fun h => o_in (hq2 h)
 have hs1 := o_20 (wordsP w xs) (i * w / 64) (setW1 w ((wordsP w xs).getD (i * w / 64) 0) v (i * w % 64))
 have hs2 := o_20 ((wordsP w xs).set (i * w / 64) (setW1 w ((wordsP w xs).getD (i * w / 64) 0) v (i * w % 64))) (i * w / 64 + 1) (setW2 w ((wordsP w xs).getD (i * w / 64 + 1) 0) v (64 - i * w % 64))
 have hg3 : 64 < i * w % 64 + w → ((u64s (wordsP w xs)).set (i * w / 64) (V.d (.int .u64 (setW1 w ((wordsP w xs).getD (i * w / 64) 0) v (i * w % 64) : Nat))))[i * w / 64 + 1]? = some (.d (.int .u64 ((wordsP w xs).getD (i * w / 64 + 1) 0 : Nat))) := by
  intro h
  rw [List.getElem?_set, if_neg (by omega)]
  exact hg2 h
 have h32 : 2 ^ w ≤ 2 ^ 32 := Nat.pow_le_pow_right (by omega) hw
 have hlen := o_1z (wordsP w xs)
 have hnle : ¬ ((2 ^ w - 1 : Nat) : Int) < v := by omega
 have hnle' : ¬ (2 ^ w - 1 < v) := by omega
 have hlx : (xs.set i v).length = xs.length := List.length_set
 rw [o_1y] at hlen hq hq2
 -- the first word
 have w1 : IntKind.u64.wrap (((2 ^ w - 1 : Nat) : Int) * 2 ^ (i * w % 64)) = (((2 ^ w - 1) * 2 ^ (i * w % 64) % 2 ^ 64 : Nat) : Int) := by
  rw [IntKind.wrap_u64, Int.natCast_emod, Int.natCast_mul, Int.natCast_pow]; rfl
 have w2 : IntKind.u64.wrap ((v : Int) * 2 ^ (i * w % 64)) = ((v * 2 ^ (i * w % 64) % 2 ^ 64 : Nat) : Int) := by
  rw [IntKind.wrap_u64, Int.natCast_emod, Int.natCast_mul, Int.natCast_pow]; rfl
 have lt1 : (2 ^ w - 1) * 2 ^ (i * w % 64) % 2 ^ 64 < 2 ^ 64 := Nat.mod_lt _ (by omega)
 have lt2 : v * 2 ^ (i * w % 64) % 2 ^ 64 < 2 ^ 64 := Nat.mod_lt _ (by omega)
 have w3 := o_ip ((wordsP w xs).getD (i * w / 64) 0) ((2 ^ w - 1) * 2 ^ (i * w % 64) % 2 ^ 64) hx1 lt1
 have w4 := o_44 (andN ((wordsP w xs).getD (i * w / 64) 0) ((2 ^ w - 1) * 2 ^ (i * w % 64) % 2 ^ 64)) (v * 2 ^ (i * w % 64) % 2 ^ 64) (o_4i hx1) lt2
 have w5 : andN ((wordsP w xs).getD (i * w / 64) 0) ((2 ^ w - 1) * 2 ^ (i * w % 64) % 2 ^ 64) ||| v * 2 ^ (i * w % 64) % 2 ^ 64 = setW1 w ((wordsP w xs).getD (i * w / 64) 0) v (i * w % 64) := rfl
 rw [w5] at w4
 clear w5
 -- the second one
 have w6 : (((2 ^ w - 1 : Nat) : Int)) / 2 ^ (64 - i * w % 64) = (((2 ^ w - 1) / 2 ^ (64 - i * w % 64) : Nat) : Int) := by rw [Int.natCast_ediv, Int.natCast_pow]; rfl
 have w7 : (v : Int) / 2 ^ (64 - i * w % 64) = ((v / 2 ^ (64 - i * w % 64) : Nat) : Int) := by rw [Int.natCast_ediv, Int.natCast_pow]; rfl
 have lt3 : (2 ^ w - 1) / 2 ^ (64 - i * w % 64) < 2 ^ 64 := Nat.lt_of_le_of_lt (Nat.div_le_self _ _) (by omega)
 have lt4 : v / 2 ^ (64 - i * w % 64) < 2 ^ 64 := Nat.lt_of_le_of_lt (Nat.div_le_self _ _) (by omega)
 have w8 := o_ip ((wordsP w xs).getD (i * w / 64 + 1) 0) ((2 ^ w - 1) / 2 ^ (64 - i * w % 64)) hx2 lt3
 have w9 := o_44 (andN ((wordsP w xs).getD (i * w / 64 + 1) 0) ((2 ^ w - 1) / 2 ^ (64 - i * w % 64))) (v / 2 ^ (64 - i * w % 64)) (o_4i hx2) lt4
 have w10 : andN ((wordsP w xs).getD (i * w / 64 + 1) 0) ((2 ^ w - 1) / 2 ^ (64 - i * w % 64)) ||| v / 2 ^ (64 - i * w % 64) = setW2 w ((wordsP w xs).getD (i * w / 64 + 1) 0) v (64 - i * w % 64) := rfl
 rw [w10] at w9
 clear w10 lt1 lt2 lt3 lt4
 simp only [o_ez, vecO, vecB, hlx]
 have hL0 : u64s (wordsP w xs) = ((wordsP w xs).map fun x : Nat => D.int .u64 x).map V.d := by simp [u64s]
 have htk : ((wordsP w xs).map fun x : Nat => D.int .u64 x).take (nwP xs.length w) = (wordsP w xs).map fun x : Nat => D.int .u64 x := List.take_of_length_le (by simp)
 simp only [vecD] at hpl
 generalize hL : ((wordsP w xs).map fun x : Nat => D.int .u64 x) = L0 at *
 generalize hW : wordsP w (xs.set i v) = W2 at *
 generalize andN ((wordsP w xs).getD (i * w / 64) 0) ((2 ^ w - 1) * 2 ^ (i * w % 64) % 2 ^ 64) = A1 at *
 generalize andN ((wordsP w xs).getD (i * w / 64 + 1) 0) ((2 ^ w - 1) / 2 ^ (64 - i * w % 64)) = A2 at *
 generalize setW1 w ((wordsP w xs).getD (i * w / 64) 0) v (i * w % 64) = Y1 at *
 generalize setW2 w ((wordsP w xs).getD (i * w / 64 + 1) 0) v (64 - i * w % 64) = Y2 at *
 generalize (wordsP w xs).getD (i * w / 64) 0 = x1 at *
 generalize (wordsP w xs).getD (i * w / 64 + 1) 0 = x2 at *
 generalize (2 ^ w - 1) * 2 ^ (i * w % 64) % 2 ^ 64 = M1 at *
 generalize v * 2 ^ (i * w % 64) % 2 ^ 64 = v1 at *
 generalize (2 ^ w - 1) / 2 ^ (64 - i * w % 64) = M2 at *
 generalize v / 2 ^ (64 - i * w % 64) = v2 at *
 generalize 2 ^ w - 1 = M at *
 have hs64 : 64 - i * w % 64 ≤ 64 := by omega
 have e4 : IntKind.i64.wrap (64 - ((i * w % 64 : Nat) : Int)) = ((64 - i * w % 64 : Nat) : Int) := by rw [w64 (by omega) (by omega)]; omega
 have e8 : IntKind.i64.wrap (((i * w / 64 : Nat) : Int) + 1) = ((i * w / 64 + 1 : Nat) : Int) := by rw [w64 (by omega) (by omega)]; omega
 have e2 : IntKind.i64.wrap (((i * w % 64 : Nat) : Int) + w) = ((i * w % 64 + w : Nat) : Int) := by rw [w64 (by omega) (by omega)]; omega
 generalize 64 - i * w % 64 = s at *
 generalize i * w / 64 + 1 = q1 at *
 generalize i * w / 64 = q at *
 generalize i * w % 64 + w = rw_ at *
 generalize i * w % 64 = r at *
 generalize wordsP w xs = WS at *
 generalize nwP xs.length w = NW at *
 have hr64 : (r : Int) ≤ 64 := by omega
 have hs64' : (s : Int) ≤ 64 := by omega
 refine G1 (fs g1 g2) ?_; try with_reducible exact tt
 refine AW.cond rfl (fun h => ?_) (fun h => ?_)
 ·simp [g1, g2] at h
 refine G0 ?_; try with_reducible exact tt
 refine CallS.ro [(1, 1, L0), (0, 1, [.sl NW L0, .int .i64 xs.length, .int .i64 w])] (hma NW L0 xs.length) (R1 (fs hnle hnle') ?_) (hok := by first | (simp [frzOK, frzH, hL0, htk]; done) | (simp [frzOK, frzH, hL0, htk]; rfl)); try with_reducible exact tt
 refine AW.cond rfl (fun h => ?_) (fun h => ?_)
 ·simp [hnle'] at h
 refine G0 ?_; try with_reducible exact tt
 refine CallS.ro [(1, 1, L0), (0, 1, _)] (hpl) (R0 ?_) (hok := by first | (simp [frzOK, frzH, hL0, htk]; done) | (simp [frzOK, frzH, hL0, htk]; rfl)); try with_reducible exact tt
 refine CallS.ro [(1, 1, L0), (0, 1, [.sl NW L0, .int .i64 xs.length, .int .i64 w])] (hma NW L0 xs.length) (R0 ?_) (hok := by first | (simp [frzOK, frzH, hL0, htk]; done) | (simp [frzOK, frzH, hL0, htk]; rfl)); try with_reducible exact tt
 repeat (first | refine AW.seq ?_ | refine AW.block ?_ | (refine AW.reg mix ?_; simp -implicitDefEqProofs [hg1, w1, w2, w3, w4, hr64, e2]; try simp (disch := omega) only [w64, wu64]) | (refine need.of (by first | omega | kernel_rfl) ?_) | (refine AW.fin ?_; try simp -implicitDefEqProofs [hg1, w1, w2, w3, w4, hr64, e2]))
 (try (simp -implicitDefEqProofs [hg1, w1, w2, w3, w4, hr64, e2]; try simp (disch := omega) only [w64, wu64]))
 repeat (first | refine AW.seq ?_ | refine AW.block ?_ | (refine AW.reg mix ?_; simp -implicitDefEqProofs [hg1, w1, w2, w3, w4, hr64, e2]; try simp (disch := omega) only [w64, wu64]) | (refine need.of (by first | omega | kernel_rfl) ?_) | (refine AW.fin ?_; try simp -implicitDefEqProofs [hg1, w1, w2, w3, w4, hr64, e2]))
 by_cases hrw : rw_ ≤ 64
 ·replace hp1 := hp1 hrw
  have g3 : ¬ 64 < rw_ := by omega
  have g3' : ¬ (64 : Int) < rw_ := by omega
  refine AW.cond rfl (fun h => ?_) (fun h => ?_)
  ·exfalso; simp at h; omega
  refine G0 ?_; try with_reducible exact tt
  exact Subs.of (by rw [o_20, hp1])
 ·have g3 : 64 < rw_ := by omega
  replace hp2 := hp2 g3
  replace hg3 := hg3 g3
  replace hq2 := hq2 g3
  obtain ⟨L1, hL1, hL1l⟩ : ∃ L1 : List D, (u64s WS).set q (V.d (.int .u64 Y1)) = L1.map V.d ∧ L1.length = NW := ⟨(WS.set q Y1).map fun x : Nat => D.int .u64 x, by rw [o_20]; simp [u64s, Function.comp_def], by simp; have := o_1z WS; omega⟩
  have htk1 : L1.take NW = L1 := List.take_of_length_le (by omega)
  have hR : ((u64s WS).set q (V.d (.int .u64 Y1))).length = NW := by simp [hlen]
  refine AW.cond rfl (fun h => ?_) (fun h => ?_)
  ·refine G1 (fs e4 e8) ?_; try with_reducible exact tt
   refine CallS.ro [(1, 1, L1), (0, 1, [.sl NW L1, .int .i64 xs.length, .int .i64 w])] (hma NW L1 xs.length) (R0 ?_) (hok := by first | (simp [frzOK, frzH, hL1, htk1]; done) | (simp [frzOK, frzH, hL1, htk1]; rfl)); try with_reducible exact tt
   repeat (first | refine AW.seq ?_ | refine AW.block ?_ | (refine AW.reg mix ?_; simp -implicitDefEqProofs [hg3, w6, w7, w8, w9, hs64']; try simp (disch := omega) only [w64, wu64]) | (refine need.of (by first | omega | kernel_rfl) ?_) | (refine AW.fin ?_; try simp -implicitDefEqProofs [hg3, w6, w7, w8, w9, hs64']))
   (try (simp -implicitDefEqProofs [hg3, w6, w7, w8, w9, hs64']; try simp (disch := omega) only [w64, wu64]))
   repeat (first | refine AW.seq ?_ | refine AW.block ?_ | (refine AW.reg mix ?_; simp -implicitDefEqProofs [hg3, w6, w7, w8, w9, hs64']; try simp (disch := omega) only [w64, wu64]) | (refine need.of (by first | omega | kernel_rfl) ?_) | (refine AW.fin ?_; try simp -implicitDefEqProofs [hg3, w6, w7, w8, w9, hs64']))
   exact Subs.of (by rw [o_20, o_20, hp2])
  ·exfalso; simp at h; omega
end
end Go.Proofs.YtijbgbpjionfjaaGreatDoor.Am
namespace Go.Proofs.YtijbgbpjionfjaaGreatDoor.Am
section
open Go.RowKit
theorem o_is : ∀ (n : Nat) (bs : List Bool), bs.length = n → bitsW (numB bs 0) n = bs
 | 0, bs, h => by rw [List.eq_nil_of_length_eq_zero h]; rfl
 | n + 1, bs, h => by
  rcases List.eq_nil_or_concat bs with rfl | ⟨l, b, rfl⟩
  ·simp at h
  ·simp at h
   rw [List.concat_eq_append, o_1w, show numB [b] (numB l 0) = 2 * numB l 0 + b2n b from rfl, o_i1]
   have hb : (2 * numB l 0 + b2n b) / 2 = numB l 0 := by have := o_42 b; omega
   have hb2 : decide ((2 * numB l 0 + b2n b) % 2 = 1) = b := by cases b <;> simp [b2n] <;> omega
   rw [hb, hb2, o_is n l h]

/-- a register as a number -/
def encN (k a b y t : Nat) (f : Bool) : Nat := numB (encR k a b y t f) 0
def wdR (k a b : Nat) : Nat := kwR k a b + twR k b + 1
theorem o_4j (k a b y t : Nat) (f : Bool) : encN k a b y t f < 2 ^ wdR k a b := by have := o_7s (encR k a b y t f); rw [o_1x] at this; exact this
theorem o_4k (k a b y t : Nat) (f : Bool) : bitsW (encN k a b y t f) (wdR k a b) = encR k a b y t f := o_is _ _ (o_1x k a b y t f)
theorem o_21 {k a b : Nat} (h : GoodR k a b) : 0 < wdR k a b ∧ wdR k a b ≤ 16 := by
 have := (o_4b h); have := o_4c h; unfold wdR; omega

theorem o_4l (bs : List Bool) (a n : Nat) (h : a + n ≤ bs.length) : ((bitsOf (bytesOf bs)).drop a).take n = (bs.drop a).take n := by
 have e := o_t4 bs
 conv => rhs; rw [← e]
 rw [List.drop_take, List.take_take, Nat.min_eq_left (by omega)]
theorem o_4m {k a b y t : Nat} {f : Bool} (hg : GoodR k a b) (h : WellR k a b y t f) : readR (bytesOf (encR k a b y t f)) k a b 0 = ((y, t, f), 0, wdR k a b) := by
 have hl := o_1x k a b y t f
 have hf := o_ie hg h
 have h1 : numAt (bytesOf (encR k a b y t f)) 0 (kwR k a b) = y := by
  unfold numAt
  rw [o_4l _ _ _ (by omega), List.drop_zero]
  unfold encR
  rw [List.append_assoc, List.take_append_of_le_length (by simp), List.take_of_length_le (by simp), o_7t, Nat.mod_eq_of_lt hf.1]
 have h2 : numAt (bytesOf (encR k a b y t f)) (0 + kwR k a b) (twR k b) = t := by
  unfold numAt
  rw [o_4l _ _ _ (by omega), Nat.zero_add]
  unfold encR
  rw [List.append_assoc, List.drop_append_of_le_length (by simp), List.drop_of_length_le (by simp), List.nil_append, List.take_append_of_le_length (by simp), List.take_of_length_le (by simp), o_7t, Nat.mod_eq_of_lt hf.2]
 have h3 : (bitsOf (bytesOf (encR k a b y t f))).getD (0 + kwR k a b + twR k b) false = f := by
  have e := o_4l (encR k a b y t f) (kwR k a b + twR k b) 1 (by omega)
  have : ((encR k a b y t f).drop (kwR k a b + twR k b)).take 1 = [f] := by
   unfold encR
   rw [List.drop_append_of_le_length (by simp), List.drop_of_length_le (by simp)]; rfl
  rw [this] at e
  rw [Nat.zero_add, List.getD_eq_getElem?_getD]
  have e2 := congrArg (fun l => l[0]?) e
  simp only [List.getElem?_take, List.getElem?_drop] at e2
  simp at e2
  rw [e2]; rfl
 unfold readR
 rw [h1, h2, h3, if_neg (by rw [o_f, hl]; omega), if_pos (o_48.2 h)]
 simp [wdR]

/-- states -/
abbrev ST := Nat × Nat × Bool
def encs (k a b : Nat) (l : List ST) : List Nat := l.map fun s => encN k a b s.1 s.2.1 s.2.2
def wells (k a b : Nat) (l : List ST) : Prop := ∀ s ∈ l, WellR k a b s.1 s.2.1 s.2.2
@[simp] theorem o_g (k a b : Nat) (l : List ST) : (encs k a b l).length = l.length := by simp [encs]
theorem o_2u (k a b : Nat) (l : List ST) : smallP (wdR k a b) (encs k a b l) := by
 intro x hx
 obtain ⟨s, -, rfl⟩ := List.mem_map.1 hx
 exact o_4j _ _ _ _ _ _
theorem o_it {k a b : Nat} {l : List ST} {i : Nat} (h : i < l.length) : (encs k a b l).getD i 0 = encN k a b (l.getD i (0, 0, false)).1 (l.getD i (0, 0, false)).2.1 (l.getD i (0, 0, false)).2.2 := by simp [encs, h]
theorem o_tq (k a b : Nat) (l : List ST) (i : Nat) (s : ST) : (encs k a b l).set i (encN k a b s.1 s.2.1 s.2.2) = encs k a b (l.set i s) := by simp [encs, List.map_set]
theorem o_5 {k a b : Nat} {l : List ST} (h : wells k a b l) {i : Nat} (hi : i < l.length) : WellR k a b (l.getD i (0, 0, false)).1 (l.getD i (0, 0, false)).2.1 (l.getD i (0, 0, false)).2.2 := by
 rw [List.getD_eq_getElem?_getD, List.getElem?_eq_getElem hi]; exact h _ (List.getElem_mem hi)
/-- an array's variable -/
def arrO (v : Nat) (k a b : Nat) : Ob := ⟨166, [.p v 0, .d (.int .i64 k), .d (.int .i64 a), .d (.int .i64 b)]⟩
def arrV (m : Nat) (k a b : Nat) (l : List ST) : Ob := vecO m l.length (wdR k a b)
def arrB (k a b : Nat) (l : List ST) : Ob := vecB (wdR k a b) (encs k a b l)

theorem o_8a (bs : List Bool) : smallB (bytesOf bs) := by
 intro x hx
 obtain ⟨i, -, rfl⟩ := List.mem_map.1 hx
 exact o_i2 _ _

set_option maxHeartbeats 1000000 in
theorem o_8b {k a b : Nat} (l : List ST) (i : Nat) (h : GoodR k a b) (hw : wells k a b l) (hi : i < l.length) (hn : l.length ≤ 256) :
  Eqn Tryz.prog o_5t [.p 0 0, .d (.int .i64 i)] [arrO 1 k a b, arrV 2 k a b l, arrB k a b l] (.tup [.d (tsD (l.getD i (0, 0, false)).1 (l.getD i (0, 0, false)).2.1 (l.getD i (0, 0, false)).2.2), .d (.int .i64 0)]) [arrO 1 k a b, arrV 2 k a b l, arrB k a b l] := by
 refine Eqn.gen [0, 1, 2] o_bq (by simp) (by simp) (by rfl) (by decide) (by simp [tsD]) (by simp [arrO, arrV, arrB, vecO, vecB]) ?_
 obtain ⟨w0, w16⟩ := o_21 h
 have hg := o_89 (wdR k a b) (encs k a b l) i (by simpa using hi) (by simpa using hn) w0 (by omega) (o_2u k a b l)
 have hwd := o_88 (wdR k a b) (encs k a b l)
 rw [o_it hi] at hg
 have hwi := o_5 hw hi
 generalize l.getD i (0, 0, false) = s at *
 obtain ⟨y, t, f⟩ := s
 simp only at hg hwi ⊢
 have hlt := o_4j k a b y t f
 have h16 : 2 ^ wdR k a b ≤ 2 ^ 16 := Nat.pow_le_pow_right (by omega) w16
 have h3 := o_80 (encN k a b y t f) (wdR k a b) w0 (by omega) hlt (by omega)
 rw [o_4k] at h3
 have hne : encR k a b y t f ≠ [] := by simp [encR]
 have hel := o_1x k a b y t f
 have h4 := o_7x (encR k a b y t f) hne (by rw [hel]; unfold wdR at w16; omega)
 have h5 := o_81 (bytesOf (encR k a b y t f)) (by rw [o_f, hel]; unfold wdR at w16; omega)
 have h6 := o_ih (bytesOf (encR k a b y t f)) (k := k) (a := a) (b := b) 0 h (o_8a _) (by rw [o_f, hel]; unfold wdR at w16; omega) (Nat.zero_le _) _ rfl
 rw [o_4m h hwi] at h6
 have hwlen : ((wordsP (wdR k a b) (encs k a b l)).map fun x : Nat => D.int .u64 x).length = nwP l.length (wdR k a b) := by simp
 have htk : ((wordsP (wdR k a b) (encs k a b l)).map fun x : Nat => D.int .u64 x).take (nwP l.length (wdR k a b)) = (wordsP (wdR k a b) (encs k a b l)).map fun x : Nat => D.int .u64 x := List.take_of_length_le (by simp)
 have hL0 : u64s (wordsP (wdR k a b) (encs k a b l)) = ((wordsP (wdR k a b) (encs k a b l)).map fun x : Nat => D.int .u64 x).map V.d := by simp [u64s]
 have hB0 : u8s (bytesOf (encR k a b y t f)) = ((bytesOf (encR k a b y t f)).map fun x : Nat => D.int .u8 x).map V.d := by simp [u8s]
 have hBt : ((bytesOf (encR k a b y t f)).map fun x : Nat => D.int .u8 x).take (bytesOf (encR k a b y t f)).length = (bytesOf (encR k a b y t f)).map fun x : Nat => D.int .u8 x := List.take_of_length_le (by simp)
 have hBl : (bytesOf (encR k a b y t f)).length = ((encR k a b y t f).length + 7) / 8 := by simp
 simp only [o_5u, arrO, arrV, arrB, vecO, vecB, vecD, o_g, tsD, parD, rdO, BY, wrO, wrB] at hg hwd h3 h4 h5 h6 ⊢
 generalize encs k a b l = es at *
 generalize wordsP (wdR k a b) es = WS at *
 generalize encR k a b y t f = bs at *
 generalize bytesOf bs = bytes at *
 rw [← hBl] at h3 h4
 generalize hLL : (WS.map fun x : Nat => D.int .u64 x) = L0 at *
 generalize hBB : (bytes.map fun x : Nat => D.int .u8 x) = LB at *
 generalize encN k a b y t f = N at *
 generalize wdR k a b = w at *
 generalize nwP l.length w = NW at *
 refine G0 ?_; try with_reducible exact tt
 refine CallS.ro [(2, 1, L0), (1, 1, [.sl NW L0, .int .i64 l.length, .int .i64 w])] (hg) (R0 ?_) (hok := by first | (simp [frzOK, frzH, hL0, htk]; done) | (simp [frzOK, frzH, hL0, htk]; rfl)); try with_reducible exact tt
 refine AW.cond rfl (fun h => ?_) (fun h => ?_)
 ·simp at h
 refine G0 ?_; try with_reducible exact tt
 refine CallS.ro [(2, 1, L0), (1, 1, [.sl NW L0, .int .i64 l.length, .int .i64 w])] (hwd) (R0 ?_) (hok := by first | (simp [frzOK, frzH, hL0, htk]; done) | (simp [frzOK, frzH, hL0, htk]; rfl)); try with_reducible exact tt
 refine CallS.g [4] (h3) (R0 ?_); try with_reducible exact tt
 refine CallS.g [4, 5] (h4) (R0 ?_); try with_reducible exact tt
 rw [hB0]
 have h5' : Eqn Tryz.prog o_2c [.d (.sl bytes.length (List.take (bytes.length * 1) LB))] [] (.p 0 0) [⟨174, [.d (.sl bytes.length LB), .d (.int .i64 0)]⟩] := by rw [Nat.mul_one, hBt]; simpa using h5
 refine CallS.gf 6 1 ⟨5, LB.map V.d⟩ LB [] (h5') (R0 ?_); try with_reducible exact tt
 simp at h6
 refine CallS.g [7] (h6) (R0 ?_); try with_reducible exact tt
end
end Go.Proofs.YtijbgbpjionfjaaGreatDoor.Am
namespace Go.Proofs.YtijbgbpjionfjaaGreatDoor.Am
section
open Go.RowKit
theorem zeroS {k a b : Nat} (h : GoodR k a b) : WellR k a b 0 0 false := by
 rcases h with ⟨rfl, h⟩ | ⟨hk, h⟩
 ·exact .inl ⟨rfl, Nat.zero_le _, Nat.zero_le _, by simp⟩
 ·exact .inr ⟨hk, rfl, Nat.zero_le _, by simp⟩
theorem o_tr (k a b : Nat) : encN k a b 0 0 false = 0 := by
 have h : ∀ w, bitsW 0 w = List.replicate w false := by
  intro w
  apply List.ext_getElem?
  intro i
  simp only [bitsW, List.getElem?_map, List.getElem?_replicate]
  by_cases h : i < w
  ·rw [List.getElem?_range h, if_pos h]; simp
  ·rw [List.getElem?_eq_none (by simp; omega), if_neg h]; rfl
 have hz : ∀ w n, numB (List.replicate w false) n = n * 2 ^ w := by
  intro w
  induction w with
  | zero => intro n; simp [numB]
  | succ w ih => intro n; rw [List.replicate_succ, numB, ih, Nat.pow_succ]; simp [b2n]; rw [Nat.mul_comm 2 n, Nat.mul_assoc, Nat.mul_comm 2]
 unfold encN encR
 rw [h, h, show [false] = List.replicate 1 false from rfl, o_1w, o_1w, hz, hz, hz]
 simp

set_option maxHeartbeats 1000000 in
theorem o_8c {k a b : Nat} (l : List ST) (i : Nat) (y t : Nat) (f : Bool) (h : GoodR k a b) (hw : wells k a b l) (hi : i < l.length) (hn : l.length ≤ 256) (hs : WellR k a b y t f) :
  Eqn Tryz.prog o_d8 [.p 0 0, .d (.int .i64 i), .d (tsD y t f)] [arrO 1 k a b, arrV 2 k a b l, arrB k a b l] (.d (.int .i64 0)) [arrO 1 k a b, arrV 2 k a b l, arrB k a b (l.set i (y, t, f))] := by
 refine Eqn.gen [0, 1, 2] o_mx (by simp) (by simp) (by rfl) (by decide) (by simp) (by simp [arrO, arrV, arrB, vecO, vecB]) ?_
 obtain ⟨w0, w16⟩ := o_21 h
 have hg := o_89 (wdR k a b) (encs k a b l) i (by simpa using hi) (by simpa using hn) w0 (by omega) (o_2u k a b l)
 generalize (encs k a b l).getD i 0 = was at hg
 have hwd := o_88 (wdR k a b) (encs k a b l)
 have hlt := o_4j k a b y t f
 have hps := o_tp (wdR k a b) (encs k a b l) i (encN k a b y t f) (by simpa using hi) (by simpa using hn) w0 (by omega) hlt
 have hset := o_tq k a b l i (y, t, f)
 simp only at hset
 rw [hset] at hps
 have h16 : 2 ^ wdR k a b ≤ 2 ^ 16 := Nat.pow_le_pow_right (by omega) w16
 have h3 := o_ti h hs
 have hne : encR k a b y t f ≠ [] := by simp [encR]
 have hel := o_1x k a b y t f
 have h4 := o_7x (encR k a b y t f) hne (by rw [hel]; unfold wdR at w16; omega)
 have h5 := o_81 (bytesOf (encR k a b y t f)) (by rw [o_f, hel]; unfold wdR at w16; omega)
 have h6 := o_45 (bytesOf (encR k a b y t f)) 0 (wdR k a b) (o_8a _) (by omega) (by rw [o_f, hel]; unfold wdR at w16; omega) (by rw [o_f, hel]; unfold wdR; omega)
 have h7 : numAt (bytesOf (encR k a b y t f)) 0 (wdR k a b) = encN k a b y t f := by
  unfold numAt encN
  rw [o_4l _ _ _ (by rw [hel]; unfold wdR; omega), List.drop_zero, List.take_of_length_le (by rw [hel]; unfold wdR; omega)]
 rw [h7] at h6
 have htk : ((wordsP (wdR k a b) (encs k a b l)).map fun x : Nat => D.int .u64 x).take (nwP l.length (wdR k a b)) = (wordsP (wdR k a b) (encs k a b l)).map fun x : Nat => D.int .u64 x := List.take_of_length_le (by simp)
 have hL0 : u64s (wordsP (wdR k a b) (encs k a b l)) = ((wordsP (wdR k a b) (encs k a b l)).map fun x : Nat => D.int .u64 x).map V.d := by simp [u64s]
 have hB0 : u8s (bytesOf (encR k a b y t f)) = ((bytesOf (encR k a b y t f)).map fun x : Nat => D.int .u8 x).map V.d := by simp [u8s]
 have hBt : ((bytesOf (encR k a b y t f)).map fun x : Nat => D.int .u8 x).take (bytesOf (encR k a b y t f)).length = (bytesOf (encR k a b y t f)).map fun x : Nat => D.int .u8 x := List.take_of_length_le (by simp)
 have hBl : (bytesOf (encR k a b y t f)).length = ((encR k a b y t f).length + 7) / 8 := by simp
 simp only [o_d9, arrO, arrV, arrB, vecO, vecB, vecD, o_g, List.length_set, tsD, parD, rdO, BY, wrO, wrB] at hg hwd hps h3 h4 h5 h6 ⊢
 generalize encs k a b (l.set i (y, t, f)) = es' at *
 generalize hWS' : wordsP (wdR k a b) es' = WS' at *
 generalize encs k a b l = es at *
 generalize hWS : wordsP (wdR k a b) es = WS at *
 generalize encR k a b y t f = bs at *
 generalize bytesOf bs = bytes at *
 rw [← hBl] at h3 h4
 generalize hLL : (WS.map fun x : Nat => D.int .u64 x) = L0 at *
 generalize hBB : (bytes.map fun x : Nat => D.int .u8 x) = LB at *
 generalize encN k a b y t f = N at *
 generalize wdR k a b = w at *
 generalize nwP l.length w = NW at *
 have h5' : Eqn Tryz.prog o_2c [.d (.sl bytes.length (List.take (bytes.length * 1) LB))] [] (.p 0 0) [⟨174, [.d (.sl bytes.length LB), .d (.int .i64 0)]⟩] := by rw [Nat.mul_one, hBt]; simpa using h5
 simp at h6
 refine G0 ?_; try with_reducible exact tt
 refine CallS.ro [(2, 1, L0), (1, 1, [.sl NW L0, .int .i64 l.length, .int .i64 w])] (hg) (R0 ?_) (hok := by first | (simp [frzOK, frzH, hL0, htk]; done) | (simp [frzOK, frzH, hL0, htk]; rfl)); try with_reducible exact tt
 refine AW.cond rfl (fun h => ?_) (fun h => ?_)
 ·simp at h
 refine G0 ?_; try with_reducible exact tt
 refine CallS.g [4] (h3) (R0 ?_); try with_reducible exact tt
 refine AW.cond rfl (fun h => ?_) (fun h => ?_)
 ·simp at h
 refine G0 ?_; try with_reducible exact tt
 refine CallS.g [4, 5] (h4) (R0 ?_); try with_reducible exact tt
 rw [hB0]
 refine CallS.gf 6 1 ⟨5, LB.map V.d⟩ LB [] (h5') (R0 ?_); try with_reducible exact tt
 refine CallS.ro [(2, 1, L0), (1, 1, [.sl NW L0, .int .i64 l.length, .int .i64 w])] (hwd) (R0 ?_) (hok := by first | (simp [frzOK, frzH, hL0, htk]; done) | (simp [frzOK, frzH, hL0, htk]; rfl)); try with_reducible exact tt
 refine CallS.g [7] (h6) (R0 ?_); try with_reducible exact tt
 refine CallS.g [1, 2] (hps) (R0 ?_); try with_reducible exact tt
end
end Go.Proofs.YtijbgbpjionfjaaGreatDoor.Am
namespace Go.Proofs.YtijbgbpjionfjaaGreatDoor.Am
section
open Go.RowKit
theorem o_iu {k a b : Nat} (h : GoodR k a b) (n : Nat) : wells k a b (List.replicate n (0, 0, false)) := by
 intro s hs
 rw [List.eq_of_mem_replicate hs]; exact zeroS h
theorem o_ts {k a b : Nat} {l : List ST} (h : wells k a b l) (i : Nat) {s : ST} (hs : WellR k a b s.1 s.2.1 s.2.2) : wells k a b (l.set i s) := by
 intro x hx
 rcases List.mem_or_eq_of_mem_set hx with hx | rfl
 ·exact h x hx
 ·exact hs

theorem o_tt {k a b : Nat} (n : Nat) (h : GoodR k a b) (h1 : 1 ≤ n) (hn : n ≤ 256) :
  Eqn Tryz.prog o_bj [.d (parD k a b), .d (.int .i64 n)] [] (.tup [.p 0 0, .d (.int .i64 0)]) [arrO 1 k a b, arrV 2 k a b (List.replicate n (0, 0, false)), arrB k a b (List.replicate n (0, 0, false))] := by
 refine Eqn.gen [3, 1, 2] o_m2 (by simp) (by simp) (by rfl) (by decide) (by simp) (by simp [arrO, arrV, arrB, vecO, vecB]) ?_
 obtain ⟨w0, w16⟩ := o_21 h
 have hc := o_1i h
 have hb := o_ig h
 have hp := o_tn n (wdR k a b) hn w0 (by omega)
 have he : encs k a b (List.replicate n (0, 0, false)) = List.replicate n 0 := by simp [encs, o_tr]
 have g1 : ¬ (n : Int) < 1 := by omega
 have g2 : ¬ (256 : Int) < n := by omega
 rw [show kwR k a b + twR k b + 1 = wdR k a b from rfl] at hb
 simp only [o_bk, arrO, arrV, arrB, vecO, vecB, parD, he, List.length_replicate] at hc hb hp ⊢
 generalize wdR k a b = w at *
 generalize wordsP w (List.replicate n 0) = WS at *
 generalize nwP n w = NW at *
 refine G0 ?_; try with_reducible exact tt
 refine CallS.pu (hc) (R1 (fs g1 g2) ?_); try with_reducible exact tt
 refine AW.cond rfl (fun h => ?_) (fun h => ?_)
 ·simp at h
 refine G0 ?_; try with_reducible exact tt
 refine CallS.pu (hb) (R0 ?_); try with_reducible exact tt
 refine CallS.g [] (hp) (R0 ?_); try with_reducible exact tt
 refine AW.cond rfl (fun h => ?_) (fun h => ?_)
 ·simp at h
 refine G0 ?_; try with_reducible exact tt

theorem o_tu {k a b : Nat} (cs : List Bool) (l : List ST) (i n p : Nat) (m : Int) (hmx : max 0 m = (n : Int)) (d : Bool) (h : GoodR k a b) (hw : wells k a b l) (hi : i < l.length) (hn : l.length ≤ 256) (hnn : m ≤ 1048576) (hp : p ≤ cs.length) (hc : cs.length ≤ 4000000) (R : TR) (hR : R = addRM cs k a b n (l.getD i (0, 0, false)).1 (l.getD i (0, 0, false)).2.1 (l.getD i (0, 0, false)).2.2 p d) :
  Eqn Tryz.prog o_5r [.p 0 0, .p 3 0, .d (.int .i64 i), .d (.int .i64 m)] [arrO 1 k a b, arrV 2 k a b l, arrB k a b l, tapeO cs p d] (.d (.int .i64 R.e)) [arrO 1 k a b, arrV 2 k a b l, arrB k a b (if R.e = 0 then l.set i (R.y, R.t, R.f) else l), tapeO cs R.p R.d] := by
 refine Eqn.gen [0, 1, 2, 3] o_m6 (by simp) (by simp) (by rfl) (by decide) (by simp) (by simp [arrO, arrV, arrB, vecO, vecB, tapeO]) ?_
 have hg := o_8b l i h hw hi hn
 have hwi := o_5 hw hi
 generalize l.getD i (0, 0, false) = s at *
 obtain ⟨y, t, f⟩ := s
 simp only at hR hg hwi
 have ha := o_th cs k a b y t f n m hmx p d h hwi hnn hp hc R hR
 have hww := o_k (cs := cs) (n := n) (y := y) (t := t) (f := f) (p := p) (d := d) h hwi hp hc
 rw [← hR] at hww
 clear hR
 obtain ⟨e, ry, rt, rf, rp, rd⟩ := R
 simp only at hww ⊢
 by_cases he : e = 0
 ·subst he
  have hs := o_8c l i ry rt rf h hw hi hn (hww.2 rfl)
  simp only [o_5s, arrO, arrV, arrB, vecO, vecB, parD, tsD, stR, if_true, List.length_set, o_g] at hg ha hs ⊢
  generalize wordsP (wdR k a b) (encs k a b (l.set i (ry, rt, rf))) = WS' at *
  generalize wordsP (wdR k a b) (encs k a b l) = WS at *
  generalize nwP l.length (wdR k a b) = NW at *
  refine G0B ?_; try with_reducible exact tt
  refine CallS.g [0, 1, 2] (hg) (R0B ?_); try with_reducible exact tt
  refine AW.cond rfl (fun h => ?_) (fun h => ?_)
  ·simp at h
  refine G0B ?_; try with_reducible exact tt
  refine CallS.o1 3 (ha) (R0B ?_); try with_reducible exact tt
  refine AW.cond rfl (fun h => ?_) (fun h => ?_)
  ·simp at h
  refine G0B ?_; try with_reducible exact tt
  refine CallS.g [0, 1, 2] (hs) (R0B ?_); try with_reducible exact tt
 ·simp only [o_5s, arrO, arrV, arrB, vecO, vecB, parD, tsD, stR, if_neg he, o_g] at hg ha ⊢
  generalize wordsP (wdR k a b) (encs k a b l) = WS at *
  generalize nwP l.length (wdR k a b) = NW at *
  refine G0B ?_; try with_reducible exact tt
  refine CallS.g [0, 1, 2] (hg) (R0B ?_); try with_reducible exact tt
  refine AW.cond rfl (fun h => ?_) (fun h => ?_)
  ·simp at h
  refine G0B ?_; try with_reducible exact tt
  refine CallS.o1 3 (ha) (R0B ?_); try with_reducible exact tt
  refine AW.cond rfl (fun h => ?_) (fun h => ?_)
  ·refine G0B ?_; try with_reducible exact tt
  ·simp [he] at h
theorem o_q {k a b : Nat} (cs : List Bool) (l : List ST) (i n p : Nat) (d : Bool) (h : GoodR k a b) (hw : wells k a b l) (hi : i < l.length) (hn : l.length ≤ 256) (hnn : n ≤ 1048576) (hp : p ≤ cs.length) (hc : cs.length ≤ 4000000) (R : TR) (hR : R = addRM cs k a b n (l.getD i (0, 0, false)).1 (l.getD i (0, 0, false)).2.1 (l.getD i (0, 0, false)).2.2 p d) :
  Eqn Tryz.prog o_5r [.p 0 0, .p 3 0, .d (.int .i64 i), .d (.int .i64 n)] [arrO 1 k a b, arrV 2 k a b l, arrB k a b l, tapeO cs p d] (.d (.int .i64 R.e)) [arrO 1 k a b, arrV 2 k a b l, arrB k a b (if R.e = 0 then l.set i (R.y, R.t, R.f) else l), tapeO cs R.p R.d] :=
 o_tu cs l i n p n (by omega) d h hw hi hn (by omega) hp hc R hR
end
end Go.Proofs.YtijbgbpjionfjaaGreatDoor.Am
namespace Go.Proofs.YtijbgbpjionfjaaGreatDoor.Am
section
open Go.RowKit
theorem o_tv (ws : List Nat) (h0 : 0 < ws.length) (hn : ws.length ≤ 4000000) : Eqn Tryz.prog o_2h [.own 0 1 ws.length] [⟨28, u64s ws⟩] (.own 1 1 ws.length) [⟨28, u64s ws⟩, ⟨28, u64s ws⟩] := by
 refine Eqn.gen [0, 1] o_3j (by simp) (by simp) (by rfl) (by decide) (by simp) (by simp) ?_
 have hl : (u64s ws).take ws.length = u64s ws := List.take_of_length_le (by simp [u64s])
 have h0' : ws.length ≠ 0 := by omega
 simp only [o_2i]
 refine G0 ?_; try with_reducible exact tt
 refine AW.cond rfl (fun h => ?_) (fun h => ?_)
 ·simp at h
 ·repeat (first | refine AW.seq ?_ | refine AW.block ?_ | (refine AW.reg mix ?_; simp -implicitDefEqProofs [hl, h0', o_1z]; try simp (disch := omega) only [w64, wu64]) | (refine need.of (by first | omega | kernel_rfl) ?_) | (refine AW.fin ?_; try simp -implicitDefEqProofs [hl, h0', o_1z]))

/-- the words of two rows: the same? -/
theorem o_tw (ws vs : List Nat) (hn : ws.length ≤ 4000000) (hm : vs.length ≤ 4000000) : Eqn Tryz.prog o_fc [.d (.sl ws.length (ws.map fun x : Nat => D.int .u64 x)), .d (.sl vs.length (vs.map fun x : Nat => D.int .u64 x))] [] (.d (.bool (decide (ws = vs)))) [] := by
 refine Eqn.pure o_o1 Plain.ok ?_
 simp only [o_fd]
 by_cases hl : ws.length = vs.length
 ·have hlp : (ws.length : Int) = vs.length := by omega
  refine G1 hlp ?_; try with_reducible exact tt
  refine AW.cond rfl (fun h => ?_) (fun h => ?_)
  ·simp [hlp] at h
  refine G1 hlp ?_; try with_reducible exact tt
  refine AW.loopT (α := Nat) 0 (fun s => [(13, .d (.int .i64 (s : Int)))]) (fun s => []) (fun s => s ≤ ws.length ∧ ws.take s = vs.take s) (fun s => ws.length - s) 0 ?_ ?_ ⟨Nat.zero_le _, by simp⟩ ?_ ?_ ?_
  ·simp
  ·simp
  ·simp
  ·simp
  rintro i ⟨hi, he⟩
  simp
  by_cases hi' : i < ws.length
  ·have h1 : (i : Int) < ws.length := by omega
   have h1v : (i : Int) < vs.length := by omega
   have hiv : i < vs.length := by omega
   have ew : IntKind.i64.wrap ((i : Int) + 1) = ((i + 1 : Nat) : Int) := by rw [w64 (by omega) (by omega)]; omega
   refine G1 (fs hi' (fs h1 (fs h1v (fs hiv hlp)))) ?_; try with_reducible exact tt
   refine AW.cond rfl (fun h => ?_) (fun h => ?_)
   ·clear h
    refine G1 (fs hi' (fs h1 (fs h1v (fs hiv hlp)))) ?_; try with_reducible exact tt
    refine AW.cond rfl (fun h => ?_) (fun h => ?_)
    ·refine G0 ?_; try with_reducible exact tt
     refine Sub1.bool ?_
     rw [eq_comm, decide_eq_false_iff_not]
     rintro rfl
     simp at h
    ·have hgg : ws[i] = vs[i] := by simp at h; exact Int.ofNat.inj h
     repeat (first | refine AW.seq ?_ | refine AW.block ?_ | (refine AW.reg mix ?_; simp -implicitDefEqProofs [ew]; try simp (disch := omega) only [w64, wu64]) | (refine need.of (by first | omega | kernel_rfl) ?_) | (refine AW.fin ?_; try simp -implicitDefEqProofs [ew]))
     (try (simp -implicitDefEqProofs [ew]; try simp (disch := omega) only [w64, wu64]))
     repeat (first | refine AW.seq ?_ | refine AW.block ?_ | (refine AW.reg mix ?_; simp -implicitDefEqProofs [ew]; try simp (disch := omega) only [w64, wu64]) | (refine need.of (by first | omega | kernel_rfl) ?_) | (refine AW.fin ?_; try simp -implicitDefEqProofs [ew]))
     refine ⟨i + 1, ⟨by omega, ?_⟩, by omega, by simp⟩
     rw [List.take_add_one, List.take_add_one, he, List.getElem?_eq_getElem hi', List.getElem?_eq_getElem hiv, hgg]
   ·simp [hi', h1, h1v, hiv, hlp] at h
  ·have hi2 : i = ws.length := by omega
   subst hi2
   refine G1 hlp ?_; try with_reducible exact tt
   refine AW.cond rfl (fun h => ?_) (fun h => ?_)
   ·simp [hlp] at h
   refine AW.exit ?_
   (try (simp -implicitDefEqProofs; try simp (disch := omega) only [w64, wu64]))
   refine G1 hlp ?_; try with_reducible exact tt
   refine Sub1.bool ?_
   rw [eq_comm, decide_eq_true_iff]
   rwa [List.take_length, hl, List.take_length] at he
 ·have hlp : ¬ (ws.length : Int) = vs.length := by omega
  refine G1 hlp ?_; try with_reducible exact tt
  refine AW.cond rfl (fun h => ?_) (fun h => ?_)
  ·refine G0 ?_; try with_reducible exact tt
   refine Sub1.bool ?_
   rw [eq_comm, decide_eq_false_iff_not]
   rintro rfl
   exact hl rfl
  ·simp [hlp] at h

theorem o_tx (w : Nat) (xs : List Nat) (h0 : 0 < nwP xs.length w) (hn : nwP xs.length w ≤ 4000000) :
  Eqn Tryz.prog o_6f [.p 0 0] [vecO 1 xs.length w, vecB w xs] (.p 2 0) [vecO 1 xs.length w, vecB w xs, vecO 3 xs.length w, vecB w xs] := by
 refine Eqn.gen [0, 1, 3, 2] o_e1 (by simp) (by simp) (by rfl) (by decide) (by simp) (by simp [vecO, vecB]) ?_
 have hc := o_tv (wordsP w xs) (by simpa using h0) (by simpa using hn)
 have hlen := o_1y w xs
 simp only [o_6g, vecO, vecB] at hc ⊢
 generalize wordsP w xs = ws at *
 rw [hlen] at hc
 generalize nwP xs.length w = NW at *
 refine G0 ?_; try with_reducible exact tt
 refine CallS.g [1] (hc) (R0 ?_); try with_reducible exact tt

theorem o_ty (w v : Nat) (xs ys : List Nat) (h1 : nwP xs.length w ≤ 4000000) (h2 : nwP ys.length v ≤ 4000000) :
  Eqn Tryz.prog o_e2 [.ia (vecD w xs) 0, .ia (vecD v ys) 0] [] (.d (.bool (decide (xs.length = ys.length ∧ w = v ∧ wordsP w xs = wordsP v ys)))) [] := by
 refine Eqn.pure o_nc Plain.ok ?_
 have he := o_tw (wordsP w xs) (wordsP v ys) (by simpa using h1) (by simpa using h2)
 simp only [o_1y] at he
 simp only [o_e3, vecD]
 generalize wordsP w xs = ws at *
 generalize wordsP v ys = vs at *
 by_cases hl : xs.length = ys.length
 ·have hlp : (xs.length : Int) = ys.length := by omega
  by_cases hw : w = v
  ·subst hw
   refine G1 hlp ?_; try with_reducible exact tt
   refine CallS.pu (he) (R1 hlp ?_); try with_reducible exact tt
   exact Sub1.bool (by simp [hl])
  ·have hwp : ¬ (w : Int) = v := by omega
   refine G1 (fs hlp (fs hw hwp)) ?_; try with_reducible exact tt
 ·have hlp : ¬ (xs.length : Int) = ys.length := by omega
  refine G1 (fs hlp hl) ?_; try with_reducible exact tt

/-- the state that a register's bits are -/
theorem o_tz {k a b : Nat} {s r : ST} (hg : GoodR k a b) (hs : WellR k a b s.1 s.2.1 s.2.2) (hr : WellR k a b r.1 r.2.1 r.2.2) (h : encN k a b s.1 s.2.1 s.2.2 = encN k a b r.1 r.2.1 r.2.2) : s = r := by
 have h1 := o_4k k a b s.1 s.2.1 s.2.2
 rw [h, o_4k] at h1
 have h2 := o_4m hg hs
 rw [← h1, o_4m hg hr] at h2
 have := congrArg Prod.fst h2
 simp only at this
 exact this.symm
theorem o_iv {k a b : Nat} (hg : GoodR k a b) : ∀ {l m : List ST}, wells k a b l → wells k a b m → encs k a b l = encs k a b m → l = m
 | [], [], _, _, _ => rfl
 | [], _ :: _, _, _, h => by simp [encs] at h
 | _ :: _, [], _, _, h => by simp [encs] at h
 | s :: l, r :: m, h1, h2, h => by
  simp only [encs, List.map_cons, List.cons.injEq] at h
  rw [o_tz hg (h1 s (by simp)) (h2 r (by simp)) h.1, o_iv hg (fun x hx => h1 x (by simp [hx])) (fun x hx => h2 x (by simp [hx])) h.2]
theorem o_u0 {w : Nat} {xs ys : List Nat} (hw0 : 0 < w) (hl : xs.length = ys.length) (hx : smallP w xs) (hy : smallP w ys) (h : wordsP w xs = wordsP w ys) : xs = ys := by
 have hb : ∀ k, k < xs.length * w → bitX w xs k = bitX w ys k := by
  intro k hk
  have hj : k / 64 < nwP xs.length w := by unfold nwP; omega
  have h1 := o_1j (w := w) (xs := xs) hj (Nat.mod_lt k (by omega : 0 < 64))
  have h2 := o_1j (w := w) (xs := ys) (by rw [← hl]; exact hj) (Nat.mod_lt k (by omega : 0 < 64))
  rw [Nat.div_add_mod] at h1 h2
  rw [← h1, ← h2, h]
 apply List.ext_getElem? 
 intro i
 by_cases hi : i < xs.length
 ·have e : xs.getD i 0 = ys.getD i 0 := by
   apply Nat.eq_of_testBit_eq
   intro b
   by_cases hbw : b < w
   ·rw [← o_2s hbw, ← o_2s hbw]
    apply hb
    calc i * w + b < i * w + w := by omega
     _ = (i + 1) * w := by rw [Nat.succ_mul]
     _ ≤ xs.length * w := Nat.mul_le_mul_right _ hi
   ·rw [Nat.testBit_lt_two_pow (Nat.lt_of_lt_of_le (o_2t hx i) (Nat.pow_le_pow_right (by omega) (by omega))), Nat.testBit_lt_two_pow (Nat.lt_of_lt_of_le (o_2t hy i) (Nat.pow_le_pow_right (by omega) (by omega)))]
  simp only [List.getD_eq_getElem?_getD, List.getElem?_eq_getElem hi, List.getElem?_eq_getElem (hl ▸ hi), Option.getD_some] at e
  rw [List.getElem?_eq_getElem hi, List.getElem?_eq_getElem (hl ▸ hi), e]
 ·rw [List.getElem?_eq_none (by omega), List.getElem?_eq_none (by omega)]
/-- two arrays of a kind have the same words just if they have the same states -/
theorem o_u1 {k a b : Nat} {l m : List ST} (hg : GoodR k a b) (h1 : wells k a b l) (h2 : wells k a b m) : (l.length = m.length ∧ wordsP (wdR k a b) (encs k a b l) = wordsP (wdR k a b) (encs k a b m)) ↔ l = m := by
 constructor
 ·rintro ⟨hl, h⟩
  exact o_iv hg h1 h2 (o_u0 (o_21 hg).1 (by simpa using hl) (o_2u _ _ _ _) (o_2u _ _ _ _) h)
 ·rintro rfl; exact ⟨rfl, rfl⟩

theorem o_4n {k a b n : Nat} (hg : GoodR k a b) (h1 : 1 ≤ n) (hn : n ≤ 256) : 0 < nwP n (wdR k a b) ∧ nwP n (wdR k a b) ≤ 4000000 := by
 obtain ⟨w0, w16⟩ := o_21 hg
 unfold nwP
 have h1' : n * 1 ≤ n * wdR k a b := Nat.mul_le_mul_left _ w0
 have h2' : n * wdR k a b ≤ 256 * 16 := Nat.mul_le_mul hn w16
 omega

theorem o_iw {k a b : Nat} (l : List ST) (hg : GoodR k a b) (h1 : 1 ≤ l.length) (hn : l.length ≤ 256) :
  Eqn Tryz.prog o_5x [.p 0 0] [arrO 1 k a b, arrV 2 k a b l, arrB k a b l] (.p 3 0) [arrO 1 k a b, arrV 2 k a b l, arrB k a b l, arrO 4 k a b, arrV 5 k a b l, arrB k a b l] := by
 refine Eqn.gen [0, 1, 2, 5, 3, 4] o_ca (by simp) (by simp) (by rfl) (by decide) (by simp) (by simp [arrO, arrV, arrB, vecO, vecB]) ?_
 obtain ⟨n0, n1⟩ := o_4n hg h1 hn
 have hc := o_tx (wdR k a b) (encs k a b l) (by simpa using n0) (by simpa using n1)
 simp only [o_5y, arrO, arrV, arrB, vecO, vecB, o_g] at hc ⊢
 generalize wordsP (wdR k a b) (encs k a b l) = ws at *
 generalize nwP l.length (wdR k a b) = NW at *
 refine G0 ?_; try with_reducible exact tt
 refine CallS.g [1, 2] (hc) (R0 ?_); try with_reducible exact tt

theorem o_8d (n s : Nat) (ds : List D) (l : List D) : V.frzs n s ds (l.map V.d) = l.map V.d := by
 rw [o_9p]; simp [V.frz]
end
end Go.Proofs.YtijbgbpjionfjaaGreatDoor.Am
namespace Go.Proofs.YtijbgbpjionfjaaGreatDoor.Am
section
open Go.RowKit
section
variable {P : Program} {L : Nat} {Q : Exit → List V → List (Option Ob) → Prop} {T : List V} {H : List (Option Ob)} {x : C}
/-- a loop, gone through round by round -/
def AWu (P : Program) (L : Nat) (x : C) (Q : Exit → List V → List (Option Ob) → Prop) : Nat → List V → List (Option Ob) → Prop
 | 0, _, _ => False
 | n + 1, T, H => AW P L x (thenQ (AWu P L x Q n) Q) T H
theorem AW.rounds (n : Nat) (h : AWu P L x Q n T H) : AW P L (.loop x) Q T H := by
 refine AW.loop (fun k T H => AWu P L x Q k T H) n h fun k T H hk => ?_
 cases k with
 | zero => exact hk.elim
 | succ k =>
  refine AW.mono hk fun e T' H' hq => ?_
  cases e <;> first | exact ⟨k, Nat.lt_succ_self k, hq⟩ | exact hq
theorem AWu.next {n : Nat} (h : AW P L x (thenQ (AWu P L x Q n) Q) T H) : AWu P L x Q (n + 1) T H := h
end
/-- a contract, of arguments of which more is known -/
theorem EqnD.sub {P : Program} {f : FuncId} {args args' : List V} {Hs Hs' : List Ob} {X : V} {dead : List Nat} (E : EqnD P f args' Hs X Hs' dead) (h : Subs args args') : EqnD P f args Hs X Hs' dead :=
 ⟨E.len, E.old, E.lowx, E.lowo, fun m vs hb hv => E.run m vs hb (h m vs hv)⟩
end
end Go.Proofs.YtijbgbpjionfjaaGreatDoor.Am
namespace Go.Proofs.YtijbgbpjionfjaaGreatDoor.Am
section
open Go.RowKit
attribute [simp] o_8d o_9x o_9y
@[simp] theorem o_u2 (θ : Nat → Nat) : ∀ l k : List V, V.rens θ (l ++ k) = V.rens θ l ++ V.rens θ k
 | [], k => by simp [V.rens]
 | x :: l, k => by simp [V.rens, o_u2 θ l k]
@[simp] theorem o_u3 (n : Nat) : ∀ l k : List V, V.lowl n (l ++ k) = (V.lowl n l && V.lowl n k)
 | [], k => by simp [V.lowl]
 | x :: l, k => by simp [V.lowl, o_u3 n l k, Bool.and_assoc]
/-- an array that stays as it is, as data -/
def arrD (k a b : Nat) (l : List ST) : List D := [.ptr (vecD (wdR k a b) (encs k a b l)) 0, .int .i64 k, .int .i64 a, .int .i64 b]

theorem o_4o {k a b : Nat} (l : List ST) (i : Nat) (h : GoodR k a b) (hw : wells k a b l) (hi : i < l.length) (hn : l.length ≤ 256) :
  Eqn Tryz.prog o_5t [.d (.ptr (arrD k a b l) 0), .d (.int .i64 i)] [] (.tup [.d (tsD (l.getD i (0, 0, false)).1 (l.getD i (0, 0, false)).2.1 (l.getD i (0, 0, false)).2.2), .d (.int .i64 0)]) [] := by
 refine Eqn.pure o_bq Plain.ok ?_
 obtain ⟨w0, w16⟩ := o_21 h
 have hg := o_89 (wdR k a b) (encs k a b l) i (by simpa using hi) (by simpa using hn) w0 (by omega) (o_2u k a b l)
 have hwd := o_88 (wdR k a b) (encs k a b l)
 rw [o_it hi] at hg
 have hwi := o_5 hw hi
 generalize l.getD i (0, 0, false) = s at *
 obtain ⟨y, t, f⟩ := s
 simp only at hg hwi ⊢
 have hlt := o_4j k a b y t f
 have h16 : 2 ^ wdR k a b ≤ 2 ^ 16 := Nat.pow_le_pow_right (by omega) w16
 have h3 := o_80 (encN k a b y t f) (wdR k a b) w0 (by omega) hlt (by omega)
 rw [o_4k] at h3
 have hne : encR k a b y t f ≠ [] := by simp [encR]
 have hel := o_1x k a b y t f
 have h4 := o_7x (encR k a b y t f) hne (by rw [hel]; unfold wdR at w16; omega)
 have h5 := o_81 (bytesOf (encR k a b y t f)) (by rw [o_f, hel]; unfold wdR at w16; omega)
 have h6 := o_ih (bytesOf (encR k a b y t f)) (k := k) (a := a) (b := b) 0 h (o_8a _) (by rw [o_f, hel]; unfold wdR at w16; omega) (Nat.zero_le _) _ rfl
 rw [o_4m h hwi] at h6
 have hB0 : u8s (bytesOf (encR k a b y t f)) = ((bytesOf (encR k a b y t f)).map fun x : Nat => D.int .u8 x).map V.d := by simp [u8s]
 have hBt : ((bytesOf (encR k a b y t f)).map fun x : Nat => D.int .u8 x).take (bytesOf (encR k a b y t f)).length = (bytesOf (encR k a b y t f)).map fun x : Nat => D.int .u8 x := List.take_of_length_le (by simp)
 have hBl : (bytesOf (encR k a b y t f)).length = ((encR k a b y t f).length + 7) / 8 := by simp
 simp only [o_5u, arrD, o_g, tsD, parD, rdO, BY, wrO, wrB] at hg hwd h3 h4 h5 h6 ⊢
 generalize vecD (wdR k a b) (encs k a b l) = VD at *
 generalize encR k a b y t f = bs at *
 generalize bytesOf bs = bytes at *
 rw [← hBl] at h3 h4
 generalize hBB : (bytes.map fun x : Nat => D.int .u8 x) = LB at *
 generalize encN k a b y t f = N at *
 generalize wdR k a b = w at *
 refine A02 hg hwd ?_; try with_reducible exact tt
 refine CallS.g [1] (h3) (R0 ?_); try with_reducible exact tt
 refine CallS.g [1, 2] (h4) (R0 ?_); try with_reducible exact tt
 rw [hB0]
 have h5' : Eqn Tryz.prog o_2c [.d (.sl bytes.length (List.take (bytes.length * 1) LB))] [] (.p 0 0) [⟨174, [.d (.sl bytes.length LB), .d (.int .i64 0)]⟩] := by rw [Nat.mul_one, hBt]; simpa using h5
 refine CallS.gf 3 1 ⟨5, LB.map V.d⟩ LB [] (h5') (R0 ?_); try with_reducible exact tt
 simp at h6
 refine CallS.g [4] (h6) (R0 ?_); try with_reducible exact tt

theorem o_u4 (ws : List Nat) (h0 : 0 < ws.length) (hn : ws.length ≤ 4000000) : Eqn Tryz.prog o_2h [.d (.sl ws.length (ws.map fun x : Nat => D.int .u64 x))] [] (.own 0 1 ws.length) [⟨28, u64s ws⟩] := by
 refine Eqn.gen [0] o_3j (by simp) (by simp) (by rfl) (by decide) (by simp) (by simp) ?_
 have hl : (ws.map fun x : Nat => V.d (D.int .u64 x)).take ws.length = u64s ws := List.take_of_length_le (by simp [u64s])
 have h0' : ws.length ≠ 0 := by omega
 simp only [o_2i]
 refine G0 ?_; try with_reducible exact tt
 refine AW.cond rfl (fun h => ?_) (fun h => ?_)
 ·simp at h
 ·repeat (first | refine AW.seq ?_ | refine AW.block ?_ | (refine AW.reg mix ?_; simp -implicitDefEqProofs [hl, h0', o_1z]; try simp (disch := omega) only [w64, wu64]) | (refine need.of (by first | omega | kernel_rfl) ?_) | (refine AW.fin ?_; try simp -implicitDefEqProofs [hl, h0', o_1z]))
  exact Subs.of (by simp [u64s, Function.comp_def])
theorem o_u5 (w : Nat) (xs : List Nat) (h0 : 0 < nwP xs.length w) (hn : nwP xs.length w ≤ 4000000) :
  Eqn Tryz.prog o_6f [.d (.ptr (vecD w xs) 0)] [] (.p 0 0) [vecO 1 xs.length w, vecB w xs] := by
 refine Eqn.gen [1, 0] o_e1 (by simp) (by simp) (by rfl) (by decide) (by simp) (by simp [vecO, vecB]) ?_
 have hc := o_u4 (wordsP w xs) (by simpa using h0) (by simpa using hn)
 have hlen := o_1y w xs
 simp only [o_6g, vecO, vecB, vecD] at hc ⊢
 generalize wordsP w xs = ws at *
 rw [hlen] at hc
 generalize nwP xs.length w = NW at *
 refine G0 ?_; try with_reducible exact tt
 refine CallS.g [] (hc) (R0 ?_); try with_reducible exact tt
theorem o_7 {k a b : Nat} (l : List ST) (hg : GoodR k a b) (h1 : 1 ≤ l.length) (hn : l.length ≤ 256) :
  Eqn Tryz.prog o_5x [.d (.ptr (arrD k a b l) 0)] [] (.p 0 0) [arrO 1 k a b, arrV 2 k a b l, arrB k a b l] := by
 refine Eqn.gen [2, 0, 1] o_ca (by simp) (by simp) (by rfl) (by decide) (by simp) (by simp [arrO, arrV, arrB, vecO, vecB]) ?_
 obtain ⟨p1, p2⟩ := o_4n hg h1 hn
 have hc := o_u5 (wdR k a b) (encs k a b l) (by simpa using p1) (by simpa using p2)
 simp only [o_5y, arrD, arrO, arrV, arrB, vecO, vecB, o_g] at hc ⊢
 generalize wordsP (wdR k a b) (encs k a b l) = ws at *
 generalize vecD (wdR k a b) (encs k a b l) = VD at *
 refine G0 ?_; try with_reducible exact tt
 refine CallS.g [] (hc) (R0 ?_); try with_reducible exact tt
end
end Go.Proofs.YtijbgbpjionfjaaGreatDoor.Am
namespace Go.Proofs.YtijbgbpjionfjaaGreatDoor.Am
section
open Go.RowKit
/-- the prime of the sums -/
def hP : Nat := 2305843009213693951
/-- a key's sum -/
def hsum (a b key : Nat) : Nat := (a * key % hP + b) % hP
theorem hfold (x hi lo : Nat) (h1 : x / 18446744073709551616 = hi) (h2 : x % 18446744073709551616 = lo) (hx : x < 2305843009213693951 * 2305843009213693951) :
  hi < 288230376151711744 ∧ lo % 2305843009213693952 + (hi * 8 + lo / 2305843009213693952) < 18446744073709551616 ∧ (lo % 2305843009213693952 + (hi * 8 + lo / 2305843009213693952)) % 2305843009213693951 = x % 2305843009213693951 := by
 omega
theorem o_u6 {a b : Nat} : a % 2305843009213693951 * (b % 2305843009213693951) < 2305843009213693951 * 2305843009213693951 := by
 have h1 : a % 2305843009213693951 < 2305843009213693951 := Nat.mod_lt _ (by decide)
 have h2 : b % 2305843009213693951 < 2305843009213693951 := Nat.mod_lt _ (by decide)
 exact Nat.mul_lt_mul'' h1 h2
theorem and61 (x : Nat) (hx : x < 18446744073709551616) : bits BinOp.and IntKind.u64 (x : Int) 2305843009213693951 = ((x % 2305843009213693952 : Nat) : Int) := by
 show IntKind.u64.wrap (((BitVec.ofInt 64 (x : Int)) &&& (BitVec.ofInt 64 2305843009213693951)).toNat : Int) = _
 rw [show (2305843009213693951 : Int) = ((2 ^ 61 - 1 : Nat) : Int) by rfl, BitVec.toNat_and, BitVec.ofInt_natCast, BitVec.ofInt_natCast, BitVec.toNat_ofNat, BitVec.toNat_ofNat, Nat.mod_eq_of_lt (show x < 2 ^ 64 by omega), Nat.mod_eq_of_lt (show 2 ^ 61 - 1 < 2 ^ 64 by decide), Nat.and_two_pow_sub_one_eq_mod]
 rw [IntKind.wrap_u64]
 omega
theorem o_u7 (h l : Nat) (hl : l < 8) (hh : h < 288230376151711744) : bits BinOp.or IntKind.u64 ((h * 8 : Nat) : Int) (l : Int) = ((h * 8 + l : Nat) : Int) := by
 show IntKind.u64.wrap (((BitVec.ofInt 64 ((h * 8 : Nat) : Int)) ||| (BitVec.ofInt 64 (l : Int))).toNat : Int) = _
 rw [BitVec.toNat_or, BitVec.ofInt_natCast, BitVec.ofInt_natCast, BitVec.toNat_ofNat, BitVec.toNat_ofNat, Nat.mod_eq_of_lt (by omega), Nat.mod_eq_of_lt (by omega)]
 have := Nat.two_pow_add_eq_or_of_lt (i := 3) (b := l) (by omega) h
 rw [show 2 ^ 3 * h = h * 8 by omega] at this
 rw [← this, IntKind.wrap_u64]
 omega
end
end Go.Proofs.YtijbgbpjionfjaaGreatDoor.Am
namespace Go.Proofs.YtijbgbpjionfjaaGreatDoor.Am
section
open Go.RowKit
theorem and32 (x : Nat) (h : x < 18446744073709551616) : bits BinOp.and IntKind.u64 (x : Int) 4294967295 = ((x % 4294967296 : Nat) : Int) := by
 have := bits_and_u64_nat x 4294967295 h (by omega)
 rw [show ((4294967295 : Nat) : Int) = 4294967295 by rfl] at this
 rw [this, show (4294967295 : Nat) = 2 ^ 32 - 1 by rfl, Nat.and_two_pow_sub_one_eq_mod]

/-- a product of two words, by halves -/
theorem o_u8 (x y : Nat) (hx : x < 18446744073709551616) (hy : y < 18446744073709551616) :
  let x0 := x % 4294967296; let x1 := x / 4294967296; let y0 := y % 4294967296; let y1 := y / 4294967296
  let w0 := x0 * y0; let t := x1 * y0 + w0 / 4294967296; let w1 := t % 4294967296 + x0 * y1
  w0 < 18446744073709551616 ∧ x1 * y0 < 18446744073709551616 ∧ t < 18446744073709551616 ∧ x0 * y1 < 18446744073709551616 ∧ w1 < 18446744073709551616 ∧ x1 * y1 < 18446744073709551616 ∧
  x1 * y1 + t / 4294967296 < 18446744073709551616 ∧ x1 * y1 + t / 4294967296 + w1 / 4294967296 < 18446744073709551616 ∧
  x * y = (x1 * y1 + t / 4294967296 + w1 / 4294967296) * 18446744073709551616 + x * y % 18446744073709551616 := by
 intro x0 x1 y0 y1 w0 t w1
 have hx0 : x0 < 4294967296 := Nat.mod_lt _ (by decide)
 have hy0 : y0 < 4294967296 := Nat.mod_lt _ (by decide)
 have hx1 : x1 < 4294967296 := by simp only [x1]; omega
 have hy1 : y1 < 4294967296 := by simp only [y1]; omega
 have ex : x = x1 * 4294967296 + x0 := by simp only [x1, x0]; omega
 have ey : y = y1 * 4294967296 + y0 := by simp only [y1, y0]; omega
 have b : ∀ {a c : Nat}, a < 4294967296 → c < 4294967296 → a * c ≤ 18446744065119617025 := fun {a c} ha hc => by
  have := Nat.mul_le_mul (show a ≤ 4294967295 by omega) (show c ≤ 4294967295 by omega)
  omega
 have b00 := b hx0 hy0
 have b10 := b hx1 hy0
 have b01 := b hx0 hy1
 have b11 := b hx1 hy1
 have exy : x * y = x1 * y1 * 18446744073709551616 + (x1 * y0 + x0 * y1) * 4294967296 + x0 * y0 := by
  rw [ex, ey]
  simp only [Nat.add_mul, Nat.mul_add]
  have e1 : x1 * 4294967296 * (y1 * 4294967296) = x1 * y1 * 18446744073709551616 := by
   rw [Nat.mul_mul_mul_comm]
  have e2 : x1 * 4294967296 * y0 = x1 * y0 * 4294967296 := by rw [Nat.mul_right_comm]
  have e3 : x0 * (y1 * 4294967296) = x0 * y1 * 4294967296 := by rw [Nat.mul_assoc]
  rw [e1, e2, e3]; omega
 have hw0 : w0 = x0 * y0 := rfl
 generalize x * y = xy at exy ⊢
 generalize x0 * y0 = a00 at *
 have ht : t = x1 * y0 + w0 / 4294967296 := rfl
 generalize x1 * y0 = a10 at *
 have hw1 : w1 = t % 4294967296 + x0 * y1 := rfl
 generalize x0 * y1 = a01 at *
 generalize x1 * y1 = a11 at *
 clear_value w0 t w1
 omega

theorem o_u9 (x y : Nat) (hx : x < 18446744073709551616) (hy : y < 18446744073709551616) : Eqn Tryz.prog o_f3 [.d (.int .u64 x), .d (.int .u64 y)] [] (.tup [.d (.int .u64 (x * y / 18446744073709551616 : Nat)), .d (.int .u64 (x * y % 18446744073709551616 : Nat))]) [] := by
 refine Eqn.pure o_nx (o_1 _ _) ?_
 simp only [o_f4]
 have hp := o_u8 x y hx hy
 simp only at hp
 have a1 := and32 x hx
 have a2 := and32 y hy
 have d1 : (x : Int) / 4294967296 = (x / 4294967296 : Nat) := rfl
 have d2 : (y : Int) / 4294967296 = (y / 4294967296 : Nat) := rfl
 have l1 : x % 4294967296 < 4294967296 := Nat.mod_lt _ (by decide)
 generalize x % 4294967296 = x0 at hp a1 l1
 generalize x / 4294967296 = x1 at hp d1
 generalize y % 4294967296 = y0 at hp a2
 generalize y / 4294967296 = y1 at hp d2
 obtain ⟨p1, p2, p3, p4, p5, p6, p7, p8, p9⟩ := hp
 have m1 : IntKind.u64.wrap ((x0 : Int) * y0) = (x0 * y0 : Nat) := by rw [← Int.natCast_mul]; exact wu64 (by omega) (by omega)
 have m2 : IntKind.u64.wrap ((x1 : Int) * y0) = (x1 * y0 : Nat) := by rw [← Int.natCast_mul]; exact wu64 (by omega) (by omega)
 have m3 : IntKind.u64.wrap ((x0 : Int) * y1) = (x0 * y1 : Nat) := by rw [← Int.natCast_mul]; exact wu64 (by omega) (by omega)
 have m4 : IntKind.u64.wrap ((x1 : Int) * y1) = (x1 * y1 : Nat) := by rw [← Int.natCast_mul]; exact wu64 (by omega) (by omega)
 have m5 : IntKind.u64.wrap ((x : Int) * y) = (x * y % 18446744073709551616 : Nat) := by rw [IntKind.wrap_u64, Int.natCast_emod, Int.natCast_mul]; rfl
 have lo : x * y % 18446744073709551616 < 18446744073709551616 := Nat.mod_lt _ (by decide)
 generalize x * y % 18446744073709551616 = low at *
 generalize x * y = xy at *
 generalize x0 * y0 = a00 at *
 generalize x1 * y0 = a10 at *
 generalize x0 * y1 = a01 at *
 generalize x1 * y1 = a11 at *
 have q1 : (a00 : Int) / 4294967296 = (a00 / 4294967296 : Nat) := rfl
 generalize a00 / 4294967296 = b0 at *
 have s1 : IntKind.u64.wrap ((a10 : Int) + b0) = (a10 + b0 : Nat) := wu64 (by omega) (by omega)
 have a3 := and32 (a10 + b0) p3
 have q2 : ((a10 + b0 : Nat) : Int) / 4294967296 = ((a10 + b0) / 4294967296 : Nat) := rfl
 generalize (a10 + b0) / 4294967296 = t1 at *
 generalize (a10 + b0) % 4294967296 = t0 at *
 generalize a10 + b0 = t at *
 have s2 : IntKind.u64.wrap ((t0 : Int) + a01) = (t0 + a01 : Nat) := wu64 (by omega) (by omega)
 have q3 : ((t0 + a01 : Nat) : Int) / 4294967296 = ((t0 + a01) / 4294967296 : Nat) := rfl
 generalize (t0 + a01) / 4294967296 = v1 at *
 generalize t0 + a01 = v at *
 have s3 : IntKind.u64.wrap ((a11 : Int) + t1) = (a11 + t1 : Nat) := wu64 (by omega) (by omega)
 have s4 : IntKind.u64.wrap (((a11 + t1 : Nat) : Int) + v1) = (a11 + t1 + v1 : Nat) := wu64 (by omega) (by omega)
 have fin : xy / 18446744073709551616 = a11 + t1 + v1 := by omega
 rw [fin]
 generalize a11 + t1 + v1 = hi at *
 generalize a11 + t1 = r at *
 refine G1 (fs a1 (fs a2 (fs d1 (fs d2 (fs m1 (fs m2 (fs m3 (fs m4 (fs m5 (fs q1 (fs s1 (fs a3 (fs q2 (fs s2 (fs q3 (fs s3 s4)))))))))))))))) ?_; try with_reducible exact tt
end
end Go.Proofs.YtijbgbpjionfjaaGreatDoor.Am
namespace Go.Proofs.YtijbgbpjionfjaaGreatDoor.Am
section
open Go.RowKit
theorem o_ua (a b : Nat) (ha : a < 18446744073709551616) (hb : b < 18446744073709551616) : Eqn Tryz.prog o_eu [.d (.int .u64 a), .d (.int .u64 b)] [] (.d (.int .u64 (a * b % hP : Nat))) [] := by
 refine Eqn.pure o_ns Plain.ok ?_
 have hm := o_u9 (a % 2305843009213693951) (b % 2305843009213693951) (by omega) (by omega)
 obtain ⟨h1, h2, h3⟩ := hfold _ _ _ rfl rfl (o_u6 (a := a) (b := b))
 rw [show a % 2305843009213693951 * (b % 2305843009213693951) % 2305843009213693951 = a * b % hP from (Nat.mul_mod a b 2305843009213693951).symm] at h3
 generalize a % 2305843009213693951 * (b % 2305843009213693951) / 18446744073709551616 = hi at *
 have hlo : a % 2305843009213693951 * (b % 2305843009213693951) % 18446744073709551616 < 18446744073709551616 := Nat.mod_lt _ (by decide)
 generalize a % 2305843009213693951 * (b % 2305843009213693951) % 18446744073709551616 = lo at *
 have g1 := and61 lo hlo
 have g2 := o_u7 hi (lo / 2305843009213693952) (by omega) h1
 have g3 : IntKind.u64.wrap ((hi : Int) * 8) = ((hi * 8 : Nat) : Int) := by rw [IntKind.wrap_u64]; omega
 have g4 : (lo : Int) / 2305843009213693952 = ((lo / 2305843009213693952 : Nat) : Int) := rfl
 generalize lo / 2305843009213693952 = l3 at *
 generalize lo % 2305843009213693952 = l61 at *
 generalize a * b % hP = r at *
 simp only [o_ev]
 refine G0 ?_; try with_reducible exact tt
 replace g2 : bits BinOp.or IntKind.u64 ((hi : Int) * 8) (l3 : Int) = ((hi * 8 + l3 : Nat) : Int) := by rw [← g2]; rfl
 generalize hq : hi * 8 + l3 = q at *
 have g5 : IntKind.u64.wrap ((l61 : Int) + q) = ((l61 + q : Nat) : Int) := by rw [IntKind.wrap_u64]; omega
 refine CallS.pu (hm) (R1 (fs g1 (fs g2 (fs g3 (fs g4 g5)))) ?_); try with_reducible exact tt
 refine Sub1.int ?_
 rw [Int.tmod_eq_emod_of_nonneg (by omega)]
 omega

/-- a hash, as data -/
def hD (a b : Nat) : D := .agg [.int .u64 a, .int .u64 b]
theorem o_ix (a b : Nat) (ha : a < hP) (hb : b < hP) : Eqn Tryz.prog o_bh [.d (hD a b)] [] (.d (.int .i64 0)) [] := by
 refine Eqn.pure o_m1 Plain.ok ?_
 unfold hP at ha hb
 have h1 : ¬ (2305843009213693951 : Int) ≤ a := by omega
 have h2 : ¬ (2305843009213693951 : Int) ≤ b := by omega
 have h3 : ¬ 2305843009213693951 ≤ a := by omega
 have h4 : ¬ 2305843009213693951 ≤ b := by omega
 simp only [o_bi, hD]
 refine A10 (fs h1 (fs h2 (fs h3 h4))) ?_; try with_reducible exact tt
theorem o_ub (a b key : Nat) (ha : a < hP) (hb : b < hP) (hk : key < 18446744073709551616) : Eqn Tryz.prog o_d6 [.d (hD a b), .d (.int .u64 key)] [] (.d (.int .u64 (hsum a b key : Nat))) [] := by
 refine Eqn.pure o_mw Plain.ok ?_
 have h1 := o_ua a key (by unfold hP at ha; omega) hk
 have h2 : a * key % hP < hP := Nat.mod_lt _ (by decide)
 unfold hsum
 generalize a * key % hP = x at *
 unfold hP at *
 simp only [o_d7, hD]
 have e1 : IntKind.u64.wrap ((x : Int) + b) = ((x + b : Nat) : Int) := by rw [IntKind.wrap_u64]; omega
 refine A11 e1 h1 ?_; try with_reducible exact tt
 refine Sub1.int ?_
 rw [Int.tmod_eq_emod_of_nonneg (by omega)]
theorem o_l (a b key cols : Nat) (ha : a < hP) (hb : b < hP) (hk : key < hP) (h1 : 1 ≤ cols) (hc : cols ≤ 64) : Eqn Tryz.prog o_bo [.d (hD a b), .d (.int .u64 key), .d (.int .i64 cols)] [] (.tup [.d (.int .i64 (hsum a b key % cols : Nat)), .d (.int .i64 0)]) [] := by
 refine Eqn.pure o_m5 Plain.ok ?_
 have g0 := o_ix a b ha hb
 have g1 := o_ub a b key ha hb (by unfold hP at hk; omega)
 unfold hP at hk
 have e1 : ¬ (2305843009213693951 : Int) ≤ key := by omega
 have e2 : ¬ 2305843009213693951 ≤ key := by omega
 have e3 : ¬ (cols : Int) < 1 := by omega
 have e4 : ¬ (64 : Int) < cols := by omega
 have e5 : ¬ cols < 1 := by omega
 have e6 : ¬ 64 < cols := by omega
 have e7 : IntKind.u64.wrap (cols : Int) = cols := by rw [IntKind.wrap_u64]; omega
 have e8 : IntKind.i64.wrap ((hsum a b key : Int) % cols) = ((hsum a b key % cols : Nat) : Int) := by
  rw [← Int.natCast_emod]
  have := Nat.mod_lt (hsum a b key) (show 0 < cols by omega)
  exact w64 (by omega) (by omega)
 generalize hsum a b key = x at *
 simp only [o_bp, hD] at g0 g1 ⊢
 have e9 : (x : Int).tmod cols = (x : Int) % cols := by rw [Int.tmod_eq_emod_of_nonneg (by omega)]
 refine A12 (fs e1 (fs e2 (fs e3 (fs e4 (fs e5 (fs e6 (fs e7 (fs e8 e9)))))))) g0 g1 ?_; try with_reducible exact tt
end
end Go.Proofs.YtijbgbpjionfjaaGreatDoor.Am
namespace Go.Proofs.YtijbgbpjionfjaaGreatDoor.Am
section
section
variable {α β : Type} {f : α → List β} {n : Nat}
theorem o_z (hf : ∀ x, (f x).length = n) : ∀ l : List α, (l.flatMap f).length = l.length * n
 | [] => by simp
 | x :: l => by rw [List.flatMap_cons, List.length_append, hf, o_z hf l, List.length_cons, Nat.add_mul]; omega
theorem o_iy (hf : ∀ x, (f x).length = n) : ∀ (l : List α) (i : Nat), (l.flatMap f).drop (i * n) = (l.drop i).flatMap f
 | l, 0 => by simp
 | [], i + 1 => by simp
 | x :: l, i + 1 => by
  rw [List.flatMap_cons, List.drop_succ_cons, ← o_iy hf l i]
  have h := hf x
  rw [List.drop_append, List.drop_of_length_le (by rw [h, Nat.add_mul]; omega), h, Nat.add_mul]
  simp
theorem o_4p (hf : ∀ x, (f x).length = n) (l : List α) (i : Nat) (h : i < l.length) : ((l.flatMap f).drop (i * n)).take n = f l[i] := by
 rw [o_iy hf, List.drop_eq_getElem_cons h, List.flatMap_cons]
 conv => lhs; arg 1; rw [← hf l[i]]
 simp
theorem seg2 {l : List β} {k : Nat} {a b : β} (h : (l.drop k).take 2 = [a, b]) : (∀ h' : k < l.length, l[k] = a) ∧ l[k]? = some a ∧ (∀ h' : k + 1 < l.length, l[k + 1] = b) ∧ l[k + 1]? = some b := by
 have h0 := congrArg (fun l => l[0]?) h
 have h1 := congrArg (fun l => l[1]?) h
 simp only [List.getElem?_take, List.getElem?_drop] at h0 h1
 simp at h0 h1
 exact ⟨fun h' => by rw [List.getElem?_eq_getElem h'] at h0; simpa using h0, h0, fun h' => by rw [List.getElem?_eq_getElem h'] at h1; simpa using h1, h1⟩
theorem o_8e (l : List α) (i : Nat) (h : i < l.length) : l.take (i + 1) = l.take i ++ [l[i]] := by
 rw [List.take_add_one, List.getElem?_eq_getElem h]; rfl
end
end
end Go.Proofs.YtijbgbpjionfjaaGreatDoor.Am
namespace Go.Proofs.YtijbgbpjionfjaaGreatDoor.Am
section
open Go.RowKit
/-- a row: its hash, its registers -/
structure Rw where
 a : Nat
 b : Nat
 l : List ST
def rowD (k a b : Nat) (r : Rw) : List D := [.int .u64 r.a, .int .u64 r.b, .ptr (arrD k a b r.l) 0]
def rowsD (k a b : Nat) (rs : List Rw) : List D := rs.flatMap (rowD k a b)
/-- a sketch, its cells -/
def skD (R C k a b : Nat) (rs : List Rw) (T : Nat) : List D := [.int .i64 R, .int .i64 C, .int .i64 k, .int .i64 a, .int .i64 b, .sl rs.length (rowsD k a b rs), .int .i64 T]
def skO (R C k a b : Nat) (rs : List Rw) (T : Nat) : Ob := ⟨106, (skD R C k a b rs T).map .d⟩
def cpD (R C k a b : Nat) : D := .agg [.int .i64 R, .int .i64 C, .int .i64 k, .int .i64 a, .int .i64 b]
def GoodP (R C k a b : Nat) : Prop := 1 ≤ R ∧ R ≤ 4 ∧ 1 ≤ C ∧ C ≤ 64 ∧ GoodR k a b
def GoodRow (C k a b : Nat) (r : Rw) : Prop := r.a < hP ∧ r.b < hP ∧ r.l.length = C ∧ wells k a b r.l
def hashesD (hs : List (Nat × Nat)) : List D := hs.flatMap fun h => [.int .u64 h.1, .int .u64 h.2]
def newRow (C : Nat) (h : Nat × Nat) : Rw := ⟨h.1, h.2, List.replicate C (0, 0, false)⟩

theorem o_uc {R C k a b : Nat} (h : GoodP R C k a b) : Eqn Tryz.prog o_b4 [.d (cpD R C k a b)] [] (.d (.int .i64 0)) [] := by
 refine Eqn.pure o_lu Plain.ok ?_
 obtain ⟨h1, h2, h3, h4, hg⟩ := h
 have hc := o_1i hg
 have g1 : ¬ (R : Int) < 1 := by omega
 have g2 : ¬ (4 : Int) < R := by omega
 have g3 : ¬ (C : Int) < 1 := by omega
 have g4 : ¬ (64 : Int) < C := by omega
 have n1 : ¬ R < 1 := by omega
 have n2 : ¬ 4 < R := by omega
 have n3 : ¬ C < 1 := by omega
 have n4 : ¬ 64 < C := by omega
 simp only [o_b5, cpD, parD] at hc ⊢
 refine A11 (fs g1 (fs g2 (fs g3 (fs g4 (fs n1 (fs n2 (fs n3 n4))))))) hc ?_; try with_reducible exact tt

set_option maxHeartbeats 1000000 in
theorem o_8f {R C k a b : Nat} (h : GoodP R C k a b) (hs : List (Nat × Nat)) (hl : hs.length = R) (hh : ∀ x ∈ hs, x.1 < hP ∧ x.2 < hP) :
  Eqn Tryz.prog o_aa [.d (cpD R C k a b), .d (.sl R (hashesD hs))] [] (.tup [.p 0 0, .d (.int .i64 0)]) [skO R C k a b (hs.map (newRow C)) 0] := by
 refine Eqn.gen [1] o_le (by simp) (by simp) (by rfl) (by decide) (by simp) (by simp [skO, skD]) ?_
 have hc := o_uc h
 obtain ⟨h1, h2, h3, h4, hg⟩ := h
 have hn := o_tt C hg h3 (by omega)
 have hhl : (hashesD hs).length = R * 2 := by rw [← hl]; exact o_z (by simp) hs
 subst hl
 simp only [o_ab, cpD, arrO, arrV, arrB, vecO, vecB, List.length_replicate, parD] at hc hn ⊢
 have hL0 : u64s (wordsP (wdR k a b) (encs k a b (List.replicate C (0, 0, false)))) = ((wordsP (wdR k a b) (encs k a b (List.replicate C (0, 0, false)))).map fun x : Nat => D.int .u64 x).map V.d := by simp [u64s]
 have hrow : ∀ x : Nat × Nat, rowD k a b (newRow C x) = [.int .u64 x.1, .int .u64 x.2, .ptr [.ptr [.sl (nwP C (wdR k a b)) ((wordsP (wdR k a b) (encs k a b (List.replicate C (0, 0, false)))).map fun x : Nat => D.int .u64 x), .int .i64 C, .int .i64 (wdR k a b)] 0, .int .i64 k, .int .i64 a, .int .i64 b] 0] := by
  intro x
  simp [rowD, newRow, arrD, vecD]
 have hWl : ((wordsP (wdR k a b) (encs k a b (List.replicate C (0, 0, false)))).map fun x : Nat => D.int .u64 x).length = nwP C (wdR k a b) := by simp
 generalize hW : ((wordsP (wdR k a b) (encs k a b (List.replicate C (0, 0, false)))).map fun x : Nat => D.int .u64 x) = WD at *
 rw [hL0] at hn
 generalize nwP C (wdR k a b) = NW at *
 generalize wdR k a b = w at *
 have htk : WD.take NW = WD := List.take_of_length_le (by omega)
 obtain ⟨F, hF⟩ : ∃ F : Nat → List D, F = fun i => rowsD k a b ((hs.take i).map (newRow C)) := ⟨_, rfl⟩
 have hF0 : F 0 = [] := by rw [hF]; simp [rowsD]
 have hFn : F hs.length = rowsD k a b (hs.map (newRow C)) := by rw [hF]; simp
 have hFl : ∀ i, i ≤ hs.length → (F i).length = i * 3 := by
  intro i hi
  rw [hF]
  show (rowsD k a b ((hs.take i).map (newRow C))).length = i * 3
  unfold rowsD
  rw [o_z (n := 3) (fun x => by simp [rowD]), List.length_map, List.length_take]; omega
 have hFs : ∀ i (h : i < hs.length), F (i + 1) = F i ++ [.int .u64 hs[i].1, .int .u64 hs[i].2, .ptr [.ptr [.sl NW WD, .int .i64 C, .int .i64 w] 0, .int .i64 k, .int .i64 a, .int .i64 b] 0] := by
  intro i hiN
  rw [hF]
  show rowsD k a b ((hs.take (i + 1)).map (newRow C)) = rowsD k a b ((hs.take i).map (newRow C)) ++ _
  rw [← hrow hs[i], o_8e _ _ hiN, List.map_append, rowsD, List.flatMap_append]; simp [rowsD]
 have hsk : skO hs.length C k a b (hs.map (newRow C)) 0 = ⟨106, [.d (.int .i64 hs.length), .d (.int .i64 C), .d (.int .i64 k), .d (.int .i64 a), .d (.int .i64 b), .d (.sl hs.length (F hs.length)), .d (.int .i64 (0 : Nat))]⟩ := by
  rw [hFn]; simp [skO, skD]
 rw [hsk]
 clear hF hFn hrow hsk
 refine A01 hc ?_; try with_reducible exact tt
 refine AW.loopG (α := Nat) (fun i => setS (List.replicate 64 .junk) [(2, .p 0 0), (7, .p 1 0), (28, .d (.sl hs.length (hashesD hs))), (29, .d (.int .i64 hs.length)), (30, .d (.int .i64 (i : Int)))]) (fun i => some ⟨32, [.d (.int .i64 hs.length), .d (.int .i64 C), .d (.int .i64 k), .d (.int .i64 a), .d (.int .i64 b)]⟩ :: (if i = 0 then [some ⟨106, [.d (.int .i64 hs.length), .d (.int .i64 C), .d (.int .i64 k), .d (.int .i64 a), .d (.int .i64 b), .d .nilsl, .d (.int .i64 0)]⟩] else [some ⟨106, [.d (.int .i64 hs.length), .d (.int .i64 C), .d (.int .i64 k), .d (.int .i64 a), .d (.int .i64 b), .own 2 3 i, .d (.int .i64 0)]⟩, some ⟨111, (F i).map .d⟩])) (fun i => i ≤ hs.length) (fun i => hs.length - i) 0 ?_ (Nat.zero_le _) ?_ ?_ ?_
 ·intro i hi; split <;> simp
 ·simp
 ·simp
 rintro i hi
 by_cases hiN : i < hs.length
 ·have hi1 : (i : Int) < hs.length := by omega
  have hgt := o_4p (f := fun h : Nat × Nat => [D.int .u64 h.1, D.int .u64 h.2]) (n := 2) (by simp) hs i hiN
  have hgt' : ((hashesD hs).drop (i * 2)).take 2 = [D.int .u64 hs[i].1, D.int .u64 hs[i].2] := hgt
  have hck := o_ix hs[i].1 hs[i].2 (hh _ (List.getElem_mem _)).1 (hh _ (List.getElem_mem _)).2
  have hsn := hFs i hiN
  have hbd : i * 2 + 2 ≤ hs.length * 2 := by omega
  have ew : IntKind.i64.wrap ((i : Int) + 1) = (i : Int) + 1 := w64 (by omega) (by omega)
  clear hgt
  generalize hs[i].1 = x1 at *
  generalize hs[i].2 = x2 at *
  by_cases hi0 : i = 0
  ·subst hi0
   simp [hF0] at hgt' hsn
   simp
   refine A11 (fs hiN (fs hi1 (fs hgt' hhl))) hck ?_; try with_reducible exact tt
   refine CallS.g [] (hn) (R0 ?_); try with_reducible exact tt
   refine AW.freeze 5 1 ⟨28, WD.map V.d⟩ WD (by simp) rfl ?_
   simp [frzH, htk]
   refine AW.freeze 4 1 ⟨218, [.d (.sl NW WD), .d (.int .i64 C), .d (.int .i64 w)]⟩ [.sl NW WD, .int .i64 C, .int .i64 w] (by rfl) rfl ?_
   simp [frzH]
   refine AW.freeze 3 1 ⟨166, [.d (.ptr [.sl NW WD, .int .i64 C, .int .i64 w] 0), .d (.int .i64 k), .d (.int .i64 a), .d (.int .i64 b)]⟩ [.ptr [.sl NW WD, .int .i64 C, .int .i64 w] 0, .int .i64 k, .int .i64 a, .int .i64 b] (by rfl) rfl ?_
   simp [frzH]
   refine A00 ?_; try with_reducible exact tt
   refine ⟨1, 2, 7, by simp, by omega, by omega, ?_, ?_⟩
   ·simp [swT, swH, sw, Ob.sw, V.ren, V.rens]
   ·simp [swT, swH, sw, Ob.sw, V.ren, V.rens, hsn]
  ·rw [if_neg hi0]
   simp
   refine A11 (fs hiN (fs hi1 (fs hgt' (fs hhl hbd)))) hck ?_; try with_reducible exact tt
   refine CallS.g [] (hn) (R0 ?_); try with_reducible exact tt
   refine AW.freeze 6 1 ⟨28, WD.map V.d⟩ WD (by simp) rfl ?_
   simp [frzH, htk]
   refine AW.freeze 5 1 ⟨218, [.d (.sl NW WD), .d (.int .i64 C), .d (.int .i64 w)]⟩ [.sl NW WD, .int .i64 C, .int .i64 w] (by rfl) rfl ?_
   simp [frzH]
   refine AW.freeze 4 1 ⟨166, [.d (.ptr [.sl NW WD, .int .i64 C, .int .i64 w] 0), .d (.int .i64 k), .d (.int .i64 a), .d (.int .i64 b)]⟩ [.ptr [.sl NW WD, .int .i64 C, .int .i64 w] 0, .int .i64 k, .int .i64 a, .int .i64 b] (by rfl) rfl ?_
   simp [frzH]
   have hfl := hFl i hi
   refine A10 (fs hfl ew) ?_; try with_reducible exact tt
   refine ⟨i + 1, 2, 8, by simp, by omega, by omega, ?_, ?_⟩
   ·simp [swT, swH, sw, Ob.sw, V.ren, V.rens]
   ·simp [swT, swH, sw, Ob.sw, V.ren, V.rens, hsn]
 ·have h2 : i = hs.length := by omega
  subst h2
  have hz : hs.length ≠ 0 := by omega
  have hfl := hFl hs.length (Nat.le_refl _)
  rw [if_neg hz]
  simp
  refine AW.freeze 2 3 ⟨111, (F hs.length).map .d⟩ (F hs.length) (by simp) rfl ?_
  have htk2 : (F hs.length).take (hs.length * 3) = F hs.length := List.take_of_length_le (by omega)
  simp [frzH, htk2]
  refine A00 ?_; try with_reducible exact tt
theorem o_iz (hs : List (Nat × Nat)) (i : Nat) (h : i < hs.length) : ((hashesD hs).drop (i * 2)).take 2 = [.int .u64 hs[i].1, .int .u64 hs[i].2] := o_4p (f := fun h : Nat × Nat => [D.int .u64 h.1, D.int .u64 h.2]) (n := 2) (by simp) hs i h
theorem o_2v (hs : List (Nat × Nat)) : (hashesD hs).length = hs.length * 2 := o_z (f := fun h : Nat × Nat => [D.int .u64 h.1, D.int .u64 h.2]) (n := 2) (by simp) hs
end
end Go.Proofs.YtijbgbpjionfjaaGreatDoor.Am
namespace Go.Proofs.YtijbgbpjionfjaaGreatDoor.Am
section
open Go.RowKit
theorem o_15 (n : Nat) (L : List D) (h0 : 0 < n) (hl : L.length = n * 3) (hn : n ≤ 4000) : Eqn Tryz.prog o_c8 [.d (.sl n L)] [] (.own 0 3 n) [⟨111, L.map .d⟩] := by
 refine Eqn.gen [0] o_mf (by simp) (by simp) (by rfl) (by decide) (by simp) (by simp) ?_
 have h0' : n ≠ 0 := by omega
 have hlt : L.take (n * 3) = L := List.take_of_length_le (by omega)
 have hb : (n : Int) * 24 ≤ 140737488355328 := by omega
 simp only [o_c9]
 refine A10 (fs h0' (fs hl (fs hlt hb))) ?_; try with_reducible exact tt

theorem o_j0 {C k a b T : Nat} (hg : GoodR k a b) (h1 : 1 ≤ C) (h2 : C ≤ 64) (r : Rw) (hr : GoodRow C k a b r) :
  Eqn Tryz.prog o_o [.p 0 0] [skO 1 C k a b [r] T] (.p 1 0) [skO 1 C k a b [r] T, ⟨106, [.d (.int .i64 (1 : Nat)), .d (.int .i64 C), .d (.int .i64 k), .d (.int .i64 a), .d (.int .i64 b), .own 2 3 1, .d (.int .i64 T)]⟩, ⟨111, [.d (.int .u64 r.a), .d (.int .u64 r.b), .p 3 0]⟩, arrO 4 k a b, arrV 5 k a b r.l, arrB k a b r.l] := by
 obtain ⟨A, B, l⟩ := r
 obtain ⟨-, -, hl, hw⟩ := hr
 simp only at hl
 refine Eqn.gen [0, 1, 2, 4, 5, 6] o_10 (by simp) (by simp) (by rfl) (by decide) (by simp) (by simp [skO, skD, arrO, arrV, arrB, vecO, vecB, u64s]) ?_
 have hc := o_15 1 [.int .u64 A, .int .u64 B, .ptr (arrD k a b l) 0] (by omega) rfl (by omega)
 have hd := o_7 l hg (by omega) (by omega)
 simp only [o_t, skO, skD, rowsD, rowD, List.flatMap_cons, List.flatMap_nil, List.append_nil, List.map_cons, List.map_nil, List.length_cons, List.length_nil, arrO, arrV, arrB, vecO, vecB] at hc hd ⊢
 generalize arrD k a b l = AD at *
 generalize wordsP (wdR k a b) (encs k a b l) = WS at *
 generalize nwP l.length (wdR k a b) = NW at *
 generalize wdR k a b = w at *
 refine G0 ?_; try with_reducible exact tt
 refine CallS.g [] (hc) (R0 ?_); try with_reducible exact tt
 refine AW.rounds 2 ?_
 refine A00 ?_; try with_reducible exact tt
 refine CallS.g [] (hd) (R0 ?_); try with_reducible exact tt
 refine A00 ?_; try with_reducible exact tt

/-- the column of a key -/
def colOf (C A B key : Nat) : Nat := hsum A B key % C
set_option maxHeartbeats 1000000 in
theorem o_8g {C k a b T : Nat} (hg : GoodR k a b) (h1 : 1 ≤ C) (h2 : C ≤ 64) (A B : Nat) (l : List ST) (hr : GoodRow C k a b ⟨A, B, l⟩) (cs : List Bool) (key n p : Nat) (d : Bool) (hk : key < hP) (hn : n ≤ 1048576) (hT : T + n ≤ 1099511627776) (hp : p ≤ cs.length) (hc : cs.length ≤ 4000000) (R : TR)
  (hR : R = addRM cs k a b n (l.getD (colOf C A B key) (0, 0, false)).1 (l.getD (colOf C A B key) (0, 0, false)).2.1 (l.getD (colOf C A B key) (0, 0, false)).2.2 p d) :
  Eqn Tryz.prog o_1p [.p 0 0, .p 1 0, .d (.int .u64 key), .d (.int .i64 n)] [skO 1 C k a b [⟨A, B, l⟩] T, tapeO cs p d] (.d (.int .i64 R.e))
   [if R.e = 0 then skO 1 C k a b [⟨A, B, l.set (colOf C A B key) (R.y, R.t, R.f)⟩] (T + n) else skO 1 C k a b [⟨A, B, l⟩] T, tapeO cs R.p R.d] := by
 have hcl := o_j0 (T := T) hg h1 h2 ⟨A, B, l⟩ hr
 obtain ⟨hA, hB, hl, hw⟩ := hr
 simp only at hA hB hl hw
 have hcol : colOf C A B key < C := Nat.mod_lt _ (by omega)
 have hof := o_l A B key C hA hB hk h1 h2
 rw [show hsum A B key % C = colOf C A B key from rfl] at hof
 have hadd := o_q cs l (colOf C A B key) n p d hg hw (by omega) (by omega) hn hp hc R hR
 clear hR
 generalize colOf C A B key = col at *
 obtain ⟨e, ry, rt, rf, rp, rd⟩ := R
 simp only at hadd ⊢
 refine Eqn.gen [0, 1] o_3b (by simp) (by simp) (by rfl) (by decide) (by simp) (by intro ob hob; simp at hob; rcases hob with rfl | rfl; (split <;> simp [skO, skD]); simp [tapeO]) ?_
 have g1 : ¬ (2305843009213693951 : Int) ≤ key := by unfold hP at hk; omega
 have g2 : ¬ 2305843009213693951 ≤ key := by unfold hP at hk; omega
 have g3 : ¬ (n : Int) < 0 := by omega
 have g4 : ¬ (1048576 : Int) < n := by omega
 have g5 : ¬ 1048576 < n := by omega
 have g6 : IntKind.i64.wrap ((T : Int) + n) = ((T + n : Nat) : Int) := by rw [w64 (by omega) (by omega)]; omega
 have g7 : ¬ (1099511627776 : Int) < (T : Int) + n := by omega
 have g8 : ¬ 1099511627776 < T + n := by omega
 have hdr : (arrD k a b l) = arrD k a b l := rfl
 simp only [o_2b, skO, skD, rowsD, rowD, List.flatMap_cons, List.flatMap_nil, List.append_nil, List.map_cons, List.map_nil, List.length_cons, List.length_nil, arrO, arrV, arrB, vecO, vecB, hD] at hcl hof hadd ⊢
 by_cases he : e = 0
 ·subst he
  simp only [if_true, List.length_set] at hadd ⊢
  have hAD : arrD k a b (l.set col (ry, rt, rf)) = [.ptr [.sl (nwP l.length (wdR k a b)) ((wordsP (wdR k a b) (encs k a b (l.set col (ry, rt, rf)))).map fun x : Nat => D.int .u64 x), .int .i64 l.length, .int .i64 (wdR k a b)] 0, .int .i64 k, .int .i64 a, .int .i64 b] := by simp [arrD, vecD]
  rw [hAD]
  generalize hAl : arrD k a b l = AD at *
  have hL0 : u64s (wordsP (wdR k a b) (encs k a b (l.set col (ry, rt, rf)))) = ((wordsP (wdR k a b) (encs k a b (l.set col (ry, rt, rf)))).map fun x : Nat => D.int .u64 x).map V.d := by simp [u64s]
  have hWl : ((wordsP (wdR k a b) (encs k a b (l.set col (ry, rt, rf)))).map fun x : Nat => D.int .u64 x).length = nwP l.length (wdR k a b) := by simp
  rw [hL0] at hadd
  generalize ((wordsP (wdR k a b) (encs k a b (l.set col (ry, rt, rf)))).map fun x : Nat => D.int .u64 x) = WD at *
  generalize wordsP (wdR k a b) (encs k a b l) = WS at *
  generalize nwP l.length (wdR k a b) = NW at *
  have htk : WD.take NW = WD := List.take_of_length_le (by omega)
  generalize wdR k a b = w at *
  refine A10 (fs g1 (fs g2 (fs g3 (fs g4 (fs g5 (fs g6 (fs g7 g8))))))) ?_; try with_reducible exact tt
  refine CallS.g [0] (hcl) (R0 ?_); try with_reducible exact tt
  refine AW.rounds 2 ?_
  refine A01 hof ?_; try with_reducible exact tt
  refine CallS.g [4, 5, 6, 1] (hadd) (R0 ?_); try with_reducible exact tt
  refine AW.freeze 6 1 ⟨28, WD.map V.d⟩ WD (by simp) rfl ?_
  simp [frzH, htk]
  refine AW.freeze 5 1 ⟨218, [.d (.sl NW WD), .d (.int .i64 l.length), .d (.int .i64 w)]⟩ [.sl NW WD, .int .i64 l.length, .int .i64 w] (by rfl) rfl ?_
  simp [frzH]
  refine AW.freeze 4 1 ⟨166, [.d (.ptr [.sl NW WD, .int .i64 l.length, .int .i64 w] 0), .d (.int .i64 k), .d (.int .i64 a), .d (.int .i64 b)]⟩ [.ptr [.sl NW WD, .int .i64 l.length, .int .i64 w] 0, .int .i64 k, .int .i64 a, .int .i64 b] (by rfl) rfl ?_
  simp [frzH]
  refine AW.freeze 3 3 ⟨111, [.d (.int .u64 A), .d (.int .u64 B), .d (.ptr [.ptr [.sl NW WD, .int .i64 l.length, .int .i64 w] 0, .int .i64 k, .int .i64 a, .int .i64 b] 0)]⟩ [.int .u64 A, .int .u64 B, .ptr [.ptr [.sl NW WD, .int .i64 l.length, .int .i64 w] 0, .int .i64 k, .int .i64 a, .int .i64 b] 0] (by rfl) rfl ?_
  simp [frzH]
  refine A10 g6 ?_; try with_reducible exact tt
 ·simp only [if_neg he, List.length_set] at hadd ⊢
  generalize hAl : arrD k a b l = AD at *
  generalize wordsP (wdR k a b) (encs k a b l) = WS at *
  generalize nwP l.length (wdR k a b) = NW at *
  generalize wdR k a b = w at *
  refine A10 (fs g1 (fs g2 (fs g3 (fs g4 (fs g5 (fs g6 (fs g7 g8))))))) ?_; try with_reducible exact tt
  refine CallS.g [0] (hcl) (R0 ?_); try with_reducible exact tt
  refine AW.rounds 2 ?_
  refine A01 hof ?_; try with_reducible exact tt
  refine CallS.g [4, 5, 6, 1] (hadd) (R0 ?_); try with_reducible exact tt
  refine A10 he ?_; try with_reducible exact tt
end
end Go.Proofs.YtijbgbpjionfjaaGreatDoor.Am
namespace Go.Proofs.YtijbgbpjionfjaaGreatDoor.Am
section
open Go.RowKit
/-- a half digit: q guessed, r left -/
def hInv (Y1 Y0 u v : Nat) (q r : Nat) : Prop := q * Y1 + r = u ∧ u * 4294967296 + v < (q + 1) * (Y1 * 4294967296 + Y0) ∧ r < 4294967296
end
end Go.Proofs.YtijbgbpjionfjaaGreatDoor.Am
namespace Go.Proofs.YtijbgbpjionfjaaGreatDoor.Am
section
open Go.RowKit
/-- the words of a row, as an own thing -/
def uW (ws : List Nat) : List V := U ws
end
end Go.Proofs.YtijbgbpjionfjaaGreatDoor.Am
namespace Go.Proofs.YtijbgbpjionfjaaGreatDoor.Am
section
open Go.RowKit
/-- words by a word: the quotient's words, the rest -/
def splitW (y : Nat) : List Nat → List Nat × Nat
 | [] => ([], 0)
 | x :: l => (((splitW y l).2 * 18446744073709551616 + x) / y :: (splitW y l).1, ((splitW y l).2 * 18446744073709551616 + x) % y)
def splitC (y : Nat) (ws : List Nat) (k : Nat) : List V := U (List.replicate k 0 ++ (splitW y (ws.drop k)).1)
end
end Go.Proofs.YtijbgbpjionfjaaGreatDoor.Am
namespace Go.Proofs.YtijbgbpjionfjaaGreatDoor.Am
section
/-- so many words of a number -/
def wordsN : Nat → Nat → List Nat
 | 0, _ => []
 | m + 1, x => x % 18446744073709551616 :: wordsN m (x / 18446744073709551616)
/-- words written over others -/
def ovr (ws : List Nat) (k : Nat) (l : List Nat) : List Nat := ws.take k ++ (l ++ ws.drop (k + l.length))
end
end Go.Proofs.YtijbgbpjionfjaaGreatDoor.Am
namespace Go.Proofs.YtijbgbpjionfjaaGreatDoor.Am
section
open Go.RowKit
/-- what is left when so often the divisor is taken away -/
def takeR (ws d : List Nat) (k g : Nat) : List Nat := wordsN (d.length + 1) (wval ((ws.drop k).take (d.length + 1)) + (if wval ((ws.drop k).take (d.length + 1)) < g * wval d then 18446744073709551616 ^ (d.length + 1) else 0) - g * wval d)
end
end Go.Proofs.YtijbgbpjionfjaaGreatDoor.Am
namespace Go.Proofs.YtijbgbpjionfjaaGreatDoor.Am
section
open Go.RowKit
end
end Go.Proofs.YtijbgbpjionfjaaGreatDoor.Am
namespace Go.Proofs.YtijbgbpjionfjaaGreatDoor.Am
section
open Go.RowKit
end
end Go.Proofs.YtijbgbpjionfjaaGreatDoor.Am
namespace Go.Proofs.YtijbgbpjionfjaaGreatDoor.Am
section
open Go.RowKit
end
end Go.Proofs.YtijbgbpjionfjaaGreatDoor.Am
namespace Go.Proofs.YtijbgbpjionfjaaGreatDoor.Am
section
theorem o_ud (z : Int) (d : Nat) (hd : 0 < d) : (mkRat z d).num.natAbs = z.natAbs / Nat.gcd z.natAbs d ∧ (mkRat z d).den = d / Nat.gcd z.natAbs d ∧ ((mkRat z d).num < 0 ↔ z < 0) := by
 have hg : 0 < Nat.gcd z.natAbs d := Nat.gcd_pos_of_pos_right _ hd
 rw [Rat.mkRat_def, dif_neg (by omega), Rat.normalize_eq]
 have hdv : ((Nat.gcd z.natAbs d : Nat) : Int) ∣ z := Int.ofNat_dvd_left.2 (Nat.gcd_dvd_left _ _)
 refine ⟨?_, rfl, ?_⟩
 ·show (z / ((Nat.gcd z.natAbs d : Nat) : Int)).natAbs = _
  rw [Int.natAbs_ediv_of_dvd hdv, Int.natAbs_natCast]
 ·show z / ((Nat.gcd z.natAbs d : Nat) : Int) < 0 ↔ z < 0
  obtain ⟨k, hk⟩ := hdv
  have hg' : 0 < ((Nat.gcd z.natAbs d : Nat) : Int) := by omega
  generalize ((Nat.gcd z.natAbs d : Nat) : Int) = g at *
  rw [hk, Int.mul_ediv_cancel_left _ (by omega)]
  constructor
  ·intro h; exact Int.mul_neg_of_pos_of_neg hg' h
  ·intro h
   rcases Int.lt_or_le k 0 with h1 | h1
   ·exact h1
   ·have := Int.mul_nonneg (Int.le_of_lt hg') h1; omega
theorem o_ue (x y : Rat) : x + y = mkRat (x.num * y.den + y.num * x.den) (x.den * y.den) := Rat.add_def' x y
theorem o_uf (x y : Rat) : x * y = mkRat (x.num * y.num) (x.den * y.den) := Rat.mul_def' x y
end
end Go.Proofs.YtijbgbpjionfjaaGreatDoor.Am
namespace Go.Proofs.YtijbgbpjionfjaaGreatDoor.Am
section
open Go.RowKit
/-- whole numbers, fractions -/
def wD (z : Int) : D := .agg [natW z.natAbs, .bool (decide (z < 0))]
def rD (q : Rat) : D := .agg [natW q.num.natAbs, .bool (decide (q.num < 0)), natW (q.den - 1)]

theorem o_2w (a b : Nat) : size (a * b) ≤ size a + size b := by
 refine o_2j (o_1b _) ?_
 rw [o_4, Nat.pow_add]
 have ha := o_i (o_6 a)
 have hb := o_i (o_6 b)
 rw [o_4] at ha hb
 unfold size
 exact Nat.mul_lt_mul'' ha hb
theorem o_ug (a b : Nat) : size (a + b) ≤ max (size a) (size b) + 1 := by
 refine o_2j (o_1b _) ?_
 rw [o_4, Nat.pow_succ]
 have ha := o_i (o_6 a)
 have hb := o_i (o_6 b)
 rw [o_4] at ha hb
 have h1 : 18446744073709551616 ^ (words a).length ≤ 18446744073709551616 ^ max (size a) (size b) := Nat.pow_le_pow_right (by decide) (Nat.le_max_left _ _)
 have h2 : 18446744073709551616 ^ (words b).length ≤ 18446744073709551616 ^ max (size a) (size b) := Nat.pow_le_pow_right (by decide) (Nat.le_max_right _ _)
 omega

theorem o_uh (s : Bool) (a : Nat) : Eqn Tryz.prog o_69 [.d (.bool s), .d (.agg [natW a])] [] (.d (.agg [natW a, .bool (s && decide (a ≠ 0))])) [] := by
 refine Eqn.pure o_n2 Plain.ok ?_
 have hz := o_11 a
 simp only [o_dh]
 cases s with
 | true =>
  refine G0 ?_; try with_reducible exact tt
  refine CallS.pu (hz) (R0 ?_); try with_reducible exact tt
  refine Sub1.of ?_
  simp
  cases a <;> rfl
 | false =>
  refine G0 ?_; try with_reducible exact tt
theorem o_ui (s : Bool) (a : Nat) (z : Int) (hz : z = if s then -(a : Int) else a) : Eqn Tryz.prog o_69 [.d (.bool s), .d (.agg [natW a])] [] (.d (wD z)) [] := by
 have h := o_uh s a
 have e : D.agg [natW a, .bool (s && decide (a ≠ 0))] = wD z := by
  subst hz
  unfold wD
  cases s with
  | true =>
   simp only [if_true, Int.natAbs_neg, Int.natAbs_natCast, Bool.true_and]
   congr 4
   rw [decide_eq_decide]; omega
  | false =>
   simp only [Bool.false_and, Int.natAbs_natCast, Bool.false_eq_true, if_false]
   congr 4
 rw [e] at h
 exact h
/-- less, the same, more -/
def cmpI (x y : Int) : Int := if x < y then -1 else if y < x then 1 else 0
end
end Go.Proofs.YtijbgbpjionfjaaGreatDoor.Am
namespace Go.Proofs.YtijbgbpjionfjaaGreatDoor.Am
section
open Go.RowKit
/-- a fraction of so many words at most -/
def RS (q : Rat) (N : Nat) : Prop := size q.num.natAbs ≤ N ∧ size q.den ≤ N
theorem RS.le {q : Rat} {N M : Nat} (h : RS q N) (hm : N ≤ M) : RS q M := ⟨Nat.le_trans h.1 hm, Nat.le_trans h.2 hm⟩
theorem RS.mk' {z : Int} {d N : Nat} (hd : 0 < d) (h1 : size z.natAbs ≤ N) (h2 : size d ≤ N) : RS (mkRat z d) N := by
 obtain ⟨p1, p2, -⟩ := o_ud z d hd
 refine ⟨?_, ?_⟩
 ·rw [p1]; exact Nat.le_trans (o_1d (Nat.div_le_self _ _)) h1
 ·rw [p2]; exact Nat.le_trans (o_1d (Nat.div_le_self _ _)) h2
theorem RS.mul {x y : Rat} {N M : Nat} (hx : RS x N) (hy : RS y M) : RS (x * y) (N + M) := by
 rw [o_uf]
 refine RS.mk' (Nat.mul_pos x.den_pos y.den_pos) ?_ ?_
 ·rw [Int.natAbs_mul]; have := o_2w x.num.natAbs y.num.natAbs; have := hx.1; have := hy.1; omega
 ·have := o_2w x.den y.den; have := hx.2; have := hy.2; omega
theorem RS.add {x y : Rat} {N M : Nat} (hx : RS x N) (hy : RS y M) : RS (x + y) (N + M + 1) := by
 rw [o_ue]
 refine RS.mk' (Nat.mul_pos x.den_pos y.den_pos) ?_ ?_
 ·have h1 := o_1d (Int.natAbs_add_le (x.num * y.den) (y.num * x.den))
  have h2 := o_ug (x.num * y.den).natAbs (y.num * x.den).natAbs
  rw [Int.natAbs_mul, Int.natAbs_mul, Int.natAbs_natCast, Int.natAbs_natCast] at *
  have h3 := o_2w x.num.natAbs y.den
  have h4 := o_2w y.num.natAbs x.den
  have := hx.1; have := hy.1; have := hx.2; have := hy.2
  omega
 ·have := o_2w x.den y.den; have := hx.2; have := hy.2; omega
theorem RS.neg {x : Rat} {N : Nat} (hx : RS x N) : RS (-x) N := by
 refine ⟨?_, ?_⟩
 ·rw [Rat.neg_num, Int.natAbs_neg]; exact hx.1
 ·rw [Rat.neg_den]; exact hx.2
theorem RS.sub {x y : Rat} {N M : Nat} (hx : RS x N) (hy : RS y M) : RS (x - y) (N + M + 1) := by
 rw [Rat.sub_eq_add_neg]; exact hx.add hy.neg

/-- less, the same, more -/
def cmpQ (x y : Rat) : Int := if x < y then -1 else if y < x then 1 else 0
theorem o_uj {I : Nat → Prop} {w : World} {v : Value} (h : D.rep I w .nilsl v) : D.rep I w (natW 0) v := by
 have := Sub1.nil (⟨fun _ => none, I, w⟩ : Mem) v (by rw [V.rep_d]; exact h)
 rw [V.rep_d] at this
 exact this
theorem Sub1.rat0 {x y : D} : Sub1 (.d (.agg [x, y, .nilsl])) (.d (.agg [x, y, natW 0])) := fun m v k => by
 rw [V.rep_d] at k ⊢
 unfold D.rep at k ⊢
 obtain ⟨vs, h1, h0, h2⟩ := k
 refine ⟨vs, h1, h0, ?_⟩
 obtain ⟨a, r, rfl, ha, h2⟩ := D.reps_cons'.1 h2
 obtain ⟨b, r, rfl, hb, h2⟩ := D.reps_cons'.1 h2
 obtain ⟨c, r, rfl, hc, h2⟩ := D.reps_cons'.1 h2
 exact D.reps_cons.2 ⟨ha, D.reps_cons.2 ⟨hb, D.reps_cons.2 ⟨o_uj hc, h2⟩⟩⟩
theorem o_uk (n : Nat) : Eqn Tryz.prog o_c2 [.d (.agg [natW n])] [] (.d (rD (n : Rat))) [] := by
 refine Eqn.pure o_mc (o_0 _) ?_
 have h1 := o_ui false n (n : Int) rfl
 have e : rD (n : Rat) = .agg [natW n, .bool false, natW 0] := by
  unfold rD
  rw [Rat.num_natCast, Rat.den_natCast, Int.natAbs_natCast]
  congr 4
 rw [e]
 have e2 : wD (n : Int) = .agg [natW n, .bool false] := by
  unfold wD
  rw [Int.natAbs_natCast]
  congr 4
 rw [e2] at h1
 simp only [o_c3]
 refine G0 ?_; try with_reducible exact tt
 refine CallS.pu (h1) (R0 ?_); try with_reducible exact tt
 exact Sub1.rat0
end
end Go.Proofs.YtijbgbpjionfjaaGreatDoor.Am
namespace Go.Proofs.YtijbgbpjionfjaaGreatDoor.Am
section
open Go.RowKit
end
end Go.Proofs.YtijbgbpjionfjaaGreatDoor.Am
namespace Go.Proofs.YtijbgbpjionfjaaGreatDoor.Am
section
open Go.RowKit
end
end Go.Proofs.YtijbgbpjionfjaaGreatDoor.Am
namespace Go.Proofs.YtijbgbpjionfjaaGreatDoor.Am
section
open Go.RowKit
end
end Go.Proofs.YtijbgbpjionfjaaGreatDoor.Am
namespace Go.Proofs.YtijbgbpjionfjaaGreatDoor.Am
section
open Go.RowKit
theorem o_ul (d k : Nat) (hd : d ≤ 8) (hk : k ≤ 1023) : partV d k = ((k % 2 ^ d : Nat) : Int) := by
 have h2 : 2 ^ d ≤ 256 := Nat.pow_le_pow_right (n := 2) (by omega) hd
 have h2' : 0 < 2 ^ d := Nat.two_pow_pos d
 have hm := Nat.mod_lt k h2'
 have e0 : (2 : Int) ^ d = (2 ^ d : Nat) := by rw [Int.natCast_pow]; rfl
 have e1 : IntKind.i64.wrap (2 ^ d : Nat) = (2 ^ d : Nat) := by rw [w64 (by omega) (by omega)]
 have e2 : IntKind.i64.wrap (((2 ^ d : Nat) : Int) - 1) = ((2 ^ d - 1 : Nat) : Int) := by rw [w64 (by omega) (by omega)]; omega
 rw [partV, e0, e1, e2]
 show IntKind.i64.wrap (((BitVec.ofInt 64 (k : Int)) &&& (BitVec.ofInt 64 ((2 ^ d - 1 : Nat) : Int))).toNat : Int) = _
 rw [BitVec.toNat_and, BitVec.ofInt_natCast, BitVec.ofInt_natCast, BitVec.toNat_ofNat, BitVec.toNat_ofNat, Nat.mod_eq_of_lt (show k < 2 ^ 64 by omega), Nat.mod_eq_of_lt (show 2 ^ d - 1 < 2 ^ 64 by omega), Nat.and_two_pow_sub_one_eq_mod]
 exact w64 (by omega) (by omega)

theorem o_um (d k : Nat) (hd : d ≤ 8) (hk : k ≤ 1023) :
  Eqn Tryz.prog o_73 [.d (.int .i64 d), .d (.int .i64 k)] [] (.tup [.d (.agg [natW ((2 ^ d + k % 2 ^ d) * 2 ^ (k / 2 ^ d) - 2 ^ d)]), .d (.int .i64 0)]) [] := by
 have h2 : 2 ^ d ≤ 256 := Nat.pow_le_pow_right (n := 2) (by omega) hd
 have hm := Nat.mod_lt k (Nat.two_pow_pos d)
 exact o_rk d k (k % 2 ^ d) hd hk (o_ul d k hd hk) (by omega)
end
end Go.Proofs.YtijbgbpjionfjaaGreatDoor.Am
namespace Go.Proofs.YtijbgbpjionfjaaGreatDoor.Am
section
open Go.RowKit
/-- what a Morris counter stands for -/
def valM (a k : Nat) : Rat := (a : Rat) * ((mkRat ((a + 1 : Nat) : Int) a) ^ k - ((1 : Nat) : Rat))
end
end Go.Proofs.YtijbgbpjionfjaaGreatDoor.Am
namespace Go.Proofs.YtijbgbpjionfjaaGreatDoor.Am
section
open Go.RowKit
theorem o_un : MethOK Tryz.prog 246 "tallymark/chain.value" o_71 := fun v w => by kernel_rfl
/-- what a chain's place stands for -/
def valF (d k : Nat) : Nat := (2 ^ d + k % 2 ^ d) * 2 ^ (k / 2 ^ d) - 2 ^ d
def valC (k a y : Nat) : Rat := if k = 1 then valM a y else if k = 2 then ((valF a y : Nat) : Rat) else (((placeY a y).value : Nat) : Rat)

theorem o_uo (d k : Nat) (hd : d ≤ 8) (hk : k ≤ 1023) : Eqn Tryz.prog o_71 [.d (.int .i64 d), .d (.int .i64 k)] [] (.tup [.d (rD ((valF d k : Nat) : Rat)), .d (.int .i64 0)]) [] := by
 refine Eqn.pure o_ol Plain.ok ?_
 have h := o_um d k hd hk
 rw [show (2 ^ d + k % 2 ^ d) * 2 ^ (k / 2 ^ d) - 2 ^ d = valF d k from rfl] at h
 have h2 := o_uk (valF d k)
 generalize valF d k = v at *
 simp only [o_ga, rD] at h2 ⊢
 refine G0 ?_; try with_reducible exact tt
 refine CallS.pu (h) (R0 ?_); try with_reducible exact tt
 refine CallS.pu (h2) (R0 ?_); try with_reducible exact tt
end
end Go.Proofs.YtijbgbpjionfjaaGreatDoor.Am
namespace Go.Proofs.YtijbgbpjionfjaaGreatDoor.Am
section
open Go.RowKit
/-- a small parameter that may be -/
def SmallR (k a b : Nat) : Prop := k = 4 ∧ 1 ≤ a ∧ a ≤ 8 ∧ b ≤ 3 ∨ k ≠ 4 ∧ GoodS k a b
theorem o_up {k a b : Nat} (h : SmallR k a b) : GoodR k a b := by
 rcases h with ⟨rfl, h1, h2, h3⟩ | ⟨hk, h⟩
 ·exact .inl ⟨rfl, h1, by omega, by omega⟩
 ·exact .inr ⟨hk, o_su h⟩

theorem o_uq (k a b : Int) : Eqn Tryz.prog o_bf [.d (parD k a b)] [] (.d (parD k a b)) [] := by
 refine Eqn.pure o_m0 Plain.ok ?_
 simp only [o_bg, parD]
 refine G0 ?_; try with_reducible exact tt
theorem o_4q (y : Int) (m n : Nat) (hm : m ≤ 1000000) (hn : n ≤ 1000000) : ∃ (N Y : Nat), bits BinOp.and IntKind.i64 y (m : Int) = N ∧ IntKind.i64.wrap ((n : Int) + 1) = (n : Int) + 1 ∧ (N : Int).tmod ((n : Int) + 1) = Y ∧ Y ≤ n := by
 obtain ⟨N, h1, h2, h3⟩ := o_v y m (by omega)
 have hY : N % (n + 1) ≤ n := by have := Nat.mod_lt N (show 0 < n + 1 by omega); omega
 refine ⟨N, N % (n + 1), h1, w64 (by omega) (by omega), ?_, hY⟩
 rw [Int.tmod_eq_emod_of_nonneg (by omega)]; norm_cast

theorem o_4r {k a b : Nat} (h : SmallR k a b) (y t : Int) (f : Bool) : ∃ (Y T : Nat) (F : Bool), WellR k a b Y T F ∧ Eqn Tryz.prog o_d0 [.d (parD k a b), .d (.agg [.int .i64 y, .int .i64 t, .bool f])] [] (.d (tsD Y T F)) [] := by
 rcases h with ⟨rfl, h1, h2, h3⟩ | ⟨hk, h⟩
 ·obtain ⟨N1, Y, a1, a2, a3, a4⟩ := o_4q y 7 a (by omega) (by omega)
  obtain ⟨N2, T, b1, b2, b3, b4⟩ := o_4q t 3 b (by omega) (by omega)
  replace a1 : bits BinOp.and IntKind.i64 y 7 = N1 := a1
  replace b1 : bits BinOp.and IntKind.i64 t 3 = N2 := b1
  refine ⟨Y, T, f && (T == b), .inl ⟨rfl, a4, b4, by simp⟩, ?_⟩
  refine Eqn.pure o_d1 Plain.ok ?_
  have hF : ((T : Int) == (b : Int)) = (T == b) := by rw [Bool.eq_iff_iff]; simp; omega
  simp only [o_67, parD, tsD]
  generalize (T == b) = F at *
  cases f with
  | true =>
   refine G0B ?_; try with_reducible exact tt
   refine AW.cond rfl (fun h => ?_) (fun h => ?_)
   ·refine G1B (fs a1 (fs a2 (fs a3 (fs b1 (fs b2 (fs b3 hF)))))) ?_; try with_reducible exact tt
   ·simp at h
  | false =>
   refine G0B ?_; try with_reducible exact tt
   refine AW.cond rfl (fun h => ?_) (fun h => ?_)
   ·refine G1B (fs a1 (fs a2 (fs a3 (fs b1 (fs b2 (fs b3 hF)))))) ?_; try with_reducible exact tt
   ·simp at h
 ·have hW : 2 ^ b - 1 ≤ 15 := by have := Nat.pow_le_pow_right (n := 2) (by omega) h.2.2; omega
  have hb2 : 0 < 2 ^ b := Nat.two_pow_pos b
  obtain ⟨N1, Y, a1, a2, a3, a4⟩ := o_4q y 15 (2 ^ b - 1) (by omega) (by omega)
  replace a1 : bits BinOp.and IntKind.i64 y 15 = N1 := a1
  refine ⟨Y, 0, f && (Y == 2 ^ b - 1), .inr ⟨hk, rfl, a4, by simp⟩, ?_⟩
  refine Eqn.pure o_d1 Plain.ok ?_
  have hF : ((Y : Int) == ((2 ^ b - 1 : Nat) : Int)) = (Y == 2 ^ b - 1) := by rw [Bool.eq_iff_iff]; simp only [beq_iff_eq]; omega
  have e0 : (2 : Int) ^ b = (2 ^ b : Nat) := by rw [Int.natCast_pow]; rfl
  have hk' : ¬ (k : Int) = 4 := by omega
  have hb64 : b ≤ 64 := by have := h.2.2; omega
  simp only [o_67, parD, tsD]
  generalize (Y == 2 ^ b - 1) = F at *
  generalize 2 ^ b = S at *
  have e3 : IntKind.i64.wrap (S : Int) = S := w64 (by omega) (by omega)
  have e4 : IntKind.i64.wrap ((S : Int) - 1) = ((S - 1 : Nat) : Int) := by rw [w64 (by omega) (by omega)]; omega
  generalize S - 1 = S1 at *
  cases f with
  | true =>
   refine G1B (fs hk hk') ?_; try with_reducible exact tt
   refine AW.cond rfl (fun h => ?_) (fun h => ?_)
   ·simp [hk'] at h
   ·refine G1B (fs a1 (fs a2 (fs a3 (fs e0 (fs e3 (fs e4 (fs hF hb64))))))) ?_; try with_reducible exact tt
  | false =>
   refine G1B (fs hk hk') ?_; try with_reducible exact tt
   refine AW.cond rfl (fun h => ?_) (fun h => ?_)
   ·simp [hk'] at h
   ·refine G1B (fs a1 (fs a2 (fs a3 (fs e0 (fs e3 (fs e4 (fs hF hb64))))))) ?_; try with_reducible exact tt

/-- what a small parameter is made of -/
theorem o_ur (k a b : Int) : ∃ K A B : Nat, SmallR K A B ∧ ∀ (y t : Int) (f : Bool), ∃ (Y T : Nat) (F : Bool), WellR K A B Y T F ∧ Eqn Tryz.prog o_be [.d (parD k a b), .d (.agg [.int .i64 y, .int .i64 t, .bool f])] [] (.tup [.d (parD K A B), .d (tsD Y T F)]) [] := by
 obtain ⟨e1, K, e2, hK, e3⟩ := o_s6 k 4 (by omega) (by omega)
 obtain ⟨B1, B2, b1, b2, b3, b4⟩ := o_4q b 255 3 (by omega) (by omega)
 replace b1 : bits BinOp.and IntKind.i64 b 255 = B1 := b1
 replace b3 : (B1 : Int).tmod 4 = B2 := b3
 obtain ⟨B3, d1, d2, d3⟩ := o_v b 3 (by omega)
 obtain ⟨A1, a1, a2, a3⟩ := o_v a 3 (by omega)
 obtain ⟨A2, a4, a5, a6⟩ := o_v a 1 (by omega)
 obtain ⟨A3, a7, a8, a9⟩ := o_v a 7 (by omega)
 replace a1 : bits BinOp.and IntKind.i64 a 3 = A1 := a1
 replace a4 : bits BinOp.and IntKind.i64 a 1 = A2 := a4
 replace a7 : bits BinOp.and IntKind.i64 a 7 = A3 := a7
 replace d1 : bits BinOp.and IntKind.i64 b 3 = B3 := d1
 have e4 : IntKind.i64.wrap (1 + (B2 : Int)) = ((1 + B2 : Nat) : Int) := by rw [w64 (by omega) (by omega)]; omega
 have hK' : K = 0 ∨ K = 1 ∨ K = 2 ∨ K = 3 := by omega
 rcases hK' with rfl | rfl | rfl | rfl
 ·refine ⟨1, 1 + A1, 1 + B2, .inr ⟨by omega, by omega, by omega, by omega⟩, fun y t f => ?_⟩
  obtain ⟨Y, T, F, hw, hE⟩ := o_4r (k := 1) (a := 1 + A1) (b := 1 + B2) (.inr ⟨by omega, by omega, by omega, by omega⟩) y t f
  refine ⟨Y, T, F, hw, ?_⟩
  refine Eqn.pure o_3c Plain.ok ?_
  simp only [o_2e, parD, tsD] at hE ⊢
  generalize 1 + A1 = XA at *
  generalize 1 + B2 = XB at *
  refine G1B (fs e1 (fs e2 e3)) ?_; try with_reducible exact tt
  refine AW.cond rfl (fun h => ?_) (fun h => ?_)
  ·refine G1B (fs b1 (fs b3 (fs e4 (fs a1 a3)))) ?_; try with_reducible exact tt
   simp at hE
   refine CallS.pu (hE) (R0B ?_); try with_reducible exact tt
  ·simp at h
 ·refine ⟨2, A2, 1 + B2, .inr ⟨by omega, by omega, by omega, by omega⟩, fun y t f => ?_⟩
  obtain ⟨Y, T, F, hw, hE⟩ := o_4r (k := 2) (a := A2) (b := 1 + B2) (.inr ⟨by omega, by omega, by omega, by omega⟩) y t f
  refine ⟨Y, T, F, hw, ?_⟩
  refine Eqn.pure o_3c Plain.ok ?_
  simp only [o_2e, parD, tsD] at hE ⊢
  generalize 1 + B2 = XB at *
  refine G1B (fs e1 (fs e2 e3)) ?_; try with_reducible exact tt
  refine AW.cond rfl (fun h => ?_) (fun h => ?_)
  ·simp at h
  refine G0B ?_; try with_reducible exact tt
  refine AW.cond rfl (fun h => ?_) (fun h => ?_)
  ·refine G1B (fs b1 (fs b3 (fs e4 a4))) ?_; try with_reducible exact tt
   simp at hE
   refine CallS.pu (hE) (R0B ?_); try with_reducible exact tt
  ·simp at h
 ·refine ⟨3, 1 + A2, 1 + B2, .inr ⟨by omega, by omega, by omega, by omega⟩, fun y t f => ?_⟩
  obtain ⟨Y, T, F, hw, hE⟩ := o_4r (k := 3) (a := 1 + A2) (b := 1 + B2) (.inr ⟨by omega, by omega, by omega, by omega⟩) y t f
  refine ⟨Y, T, F, hw, ?_⟩
  refine Eqn.pure o_3c Plain.ok ?_
  simp only [o_2e, parD, tsD] at hE ⊢
  generalize 1 + A2 = XA at *
  generalize 1 + B2 = XB at *
  refine G1B (fs e1 (fs e2 e3)) ?_; try with_reducible exact tt
  refine AW.cond rfl (fun h => ?_) (fun h => ?_)
  ·simp at h
  refine G0B ?_; try with_reducible exact tt
  refine AW.cond rfl (fun h => ?_) (fun h => ?_)
  ·simp at h
  refine G0B ?_; try with_reducible exact tt
  refine AW.cond rfl (fun h => ?_) (fun h => ?_)
  ·refine G1B (fs b1 (fs b3 (fs e4 (fs a4 a6)))) ?_; try with_reducible exact tt
   simp at hE
   refine CallS.pu (hE) (R0B ?_); try with_reducible exact tt
  ·simp at h
 ·refine ⟨4, 1 + A3, B3, .inl ⟨rfl, by omega, by omega, by omega⟩, fun y t f => ?_⟩
  obtain ⟨Y, T, F, hw, hE⟩ := o_4r (k := 4) (a := 1 + A3) (b := B3) (.inl ⟨rfl, by omega, by omega, by omega⟩) y t f
  refine ⟨Y, T, F, hw, ?_⟩
  refine Eqn.pure o_3c Plain.ok ?_
  simp only [o_2e, parD, tsD] at hE ⊢
  generalize 1 + A3 = XA at *
  refine G1B (fs e1 (fs e2 e3)) ?_; try with_reducible exact tt
  refine AW.cond rfl (fun h => ?_) (fun h => ?_)
  ·simp at h
  refine G0B ?_; try with_reducible exact tt
  refine AW.cond rfl (fun h => ?_) (fun h => ?_)
  ·simp at h
  refine G0B ?_; try with_reducible exact tt
  refine AW.cond rfl (fun h => ?_) (fun h => ?_)
  ·simp at h
  ·refine G1B (fs d1 (fs a7 a9)) ?_; try with_reducible exact tt
   simp at hE
   refine CallS.pu (hE) (R0B ?_); try with_reducible exact tt
end
end Go.Proofs.YtijbgbpjionfjaaGreatDoor.Am
namespace Go.Proofs.YtijbgbpjionfjaaGreatDoor.Am
section
open Go.RowKit
end
end Go.Proofs.YtijbgbpjionfjaaGreatDoor.Am
namespace Go.Proofs.YtijbgbpjionfjaaGreatDoor.Am
section
open Go.RowKit
end
end Go.Proofs.YtijbgbpjionfjaaGreatDoor.Am
namespace Go.Proofs.YtijbgbpjionfjaaGreatDoor.Am
section
open Go.RowKit

theorem o_us {P : Program} {f : FuncId} {c : C} {rs : List RV} {nt : Nat} (hf : fnOf P f = some (c, rs, nt, false)) (vs : Array Value) (w : World) : (callFunc f vs).run P w = .ok (.enter f vs) w := by
 unfold fnOf at hf
 split at hf
 ·rename_i fn hfn
  split at hf
  ·rename_i b hb
   simp only [Option.some.injEq, Prod.mk.injEq] at hf
   obtain ⟨h1, h2, h3, h4⟩ := hf
   have h1 : ¬ fn.name = "runtime.NumGoroutine" := by simpa using h4
   simp [callFunc, hfn, h1, hb]
  ·cases hf
 ·cases hf

/-- the world that a law finds: nothing has a name, what is there stays -/
abbrev memW (W : World) : Mem := ⟨fun _ => none, fun b => b < W.heap.size, W⟩

theorem law_walk {P : Program} {f : FuncId} {args : List V} {c : C} {rs : List RV} {nt : Nat} (hf : fnOf P f = some (c, rs, nt, false)) (E : Eqn P f args [] (.d (.bool true)) []) {W : World} {vs : List Value} (h : V.reps (memW W) args vs) :
  Calls P f vs.toArray W (fun e W' => e = .returned (.bool true) ∧ Same W W') := by
 rcases E.run (memW W) vs ⟨fun b h => h, fun n b h => by cases h⟩ h (by simp) (fun n i b h => by simp at h) (fun _ _ => rfl) with ⟨v, h1, _⟩ | ⟨_, h2⟩
 ·rw [o_us hf] at h1; cases h1
 ·refine h2.mono ?_
  rintro e w' ⟨v, m', rfl, rfl, hE⟩
  have hv := hE.rep
  rw [V.rep_d] at hv
  unfold D.rep at hv
  subst hv
  exact ⟨rfl, hE.le.os, hE.le.tape, hE.le.output, hE.le.size, fun k hk _ => hE.le.imm k hk⟩

theorem reps_of {I : Nat → Prop} {w : World} {α : Type} (f : α → D) (g : α → Value) (h : ∀ a, D.rep I w (f a) (g a)) : ∀ l : List α, D.reps I w (l.map f) (l.map g)
 | [] => by simp
 | a :: l => by
  rw [List.map_cons, List.map_cons, D.reps_cons]
  exact ⟨h a, reps_of f g h l⟩

/-- a slice that came in, of cells that are data -/
theorem o_j1 {W : World} {v : Value} {α : Type} {l : List α} (f : α → D) (g : α → Value) (hg : ∀ a, (g a).oneCell' = true) (hr : ∀ a, D.rep (fun b => b < W.heap.size) W (f a) (g a)) (h : Cells W v 1 l.length (l.map g)) : V.rep (memW W) (.d (.sl l.length (l.map f))) v := by
 rw [V.rep_d]
 unfold D.rep
 obtain ⟨h1, p, cap, rfl, h2, h3, h4⟩ := h
 refine ⟨p, cap, rfl, h2, h3, l.map g, fun u hu => ?_, reps_of f g hr l, ?_⟩
 ·obtain ⟨a, -, rfl⟩ := List.mem_map.1 hu
  exact hg a
 ·rcases h4 with ⟨rfl, h5, h6⟩ | ⟨b, o, rfl, hb, hc⟩
  ·left
   exact ⟨rfl, h6, by rw [List.eq_nil_of_length_eq_zero h5]; rfl⟩
  ·exact .inr ⟨b, o, rfl, .inr hb, hc⟩

/-- bools that came in -/
theorem o_ut {W : World} {v : Value} {cs : List Bool} (h : Bools W v cs) : V.rep (memW W) (.d (.sl cs.length (cs.map .bool))) v :=
 o_j1 D.bool Value.bool (fun _ => rfl) (fun _ => by unfold D.rep; rfl) h
theorem o_uu {W : World} {v : Value} {cs : List Bool} (h : Bools W v cs) : cs.length ≤ maxLen := h.len

/-- numbers and bools that came in -/
theorem o_j2 {W : World} {l : List D} {vs : List Value} (h1 : ∀ u ∈ vs, u.oneCell' = true) (h : D.reps (fun b => b < W.heap.size) W l vs) : V.rep (memW W) (.d (.agg l)) (.agg vs.toArray) := by
 rw [V.rep_d]
 unfold D.rep
 exact ⟨vs, rfl, h1, h⟩
end
end Go.Proofs.YtijbgbpjionfjaaGreatDoor.Am
namespace Go.Proofs.YtijbgbpjionfjaaGreatDoor.Am
section
open Go.RowKit
/-- what an act comes to: n more, or another one merged into it -/
def actM (cs : List Bool) (k a b y t : Nat) (f : Bool) (z u : Nat) (g : Bool) (n : Nat) (m : Bool) (p : Nat) (d : Bool) : TR := if m then mergeRM cs k a b y t f z u g p d else addRM cs k a b n y t f p d
end
end Go.Proofs.YtijbgbpjionfjaaGreatDoor.Am
namespace Go.Proofs.YtijbgbpjionfjaaGreatDoor.Am
section
open Go.RowKit
/-- what a register stands for -/
def valR (k a b y t : Nat) : Rat := if k = 4 then ((y * 2 ^ t : Nat) : Rat) else valC k a y
end
end Go.Proofs.YtijbgbpjionfjaaGreatDoor.Am
namespace Go.Proofs.YtijbgbpjionfjaaGreatDoor.Am
section
open Go.RowKit
end
end Go.Proofs.YtijbgbpjionfjaaGreatDoor.Am
namespace Go.Proofs.YtijbgbpjionfjaaGreatDoor.Am
section
open Go.RowKit
end
end Go.Proofs.YtijbgbpjionfjaaGreatDoor.Am
namespace Go.Proofs.YtijbgbpjionfjaaGreatDoor.Am
section
open Go.RowKit
theorem o_4s (k a b : Nat) (rs : List Rw) : (rowsD k a b rs).length = rs.length * 3 := o_z (fun x => by simp [rowD]) rs
theorem o_4t (k a b : Nat) (rs : List Rw) (i : Nat) (h : i < rs.length) : ((rowsD k a b rs).drop (i * 3)).take 3 = [.int .u64 rs[i].a, .int .u64 rs[i].b, .ptr (arrD k a b rs[i].l) 0] := o_4p (f := rowD k a b) (fun x => by simp [rowD]) rs i h

theorem o_8h {R C k a b T : Nat} (rs : List Rw) (h0 : 1 ≤ rs.length) (hn : rs.length ≤ 4) :
  Eqn Tryz.prog o_ar [.p 0 0] [skO R C k a b rs T] (.own 1 2 rs.length) [skO R C k a b rs T, ⟨62, (hashesD (rs.map fun r => (r.a, r.b))).map .d⟩] := by
 refine Eqn.gen [0, 1] o_ln (by simp) (by simp) (by rfl) (by decide) (by simp) (by simp [skO, skD]) ?_
 have hl := o_4s k a b rs
 obtain ⟨F, hF⟩ : ∃ F : Nat → List D, F = fun i => hashesD ((rs.take i).map fun r => (r.a, r.b)) := ⟨_, rfl⟩
 have hF0 : F 0 = [] := by rw [hF]; simp [hashesD]
 have hFn : hashesD (rs.map fun r => (r.a, r.b)) = F rs.length := by rw [hF]; simp
 have hFl : ∀ i, i ≤ rs.length → (F i).length = i * 2 := by
  intro i hi
  rw [hF]
  show (hashesD ((rs.take i).map fun r => (r.a, r.b))).length = i * 2
  unfold hashesD
  rw [o_z (n := 2) (fun x => by simp), List.length_map, List.length_take]; omega
 have hFs : ∀ i (h : i < rs.length), F (i + 1) = F i ++ [.int .u64 rs[i].a, .int .u64 rs[i].b] := by
  intro i hi
  rw [hF]
  show hashesD ((rs.take (i + 1)).map fun r => (r.a, r.b)) = hashesD ((rs.take i).map fun r => (r.a, r.b)) ++ _
  rw [o_8e _ _ hi, List.map_append, hashesD, List.flatMap_append]; simp [hashesD]
 have hgt := o_4t k a b rs
 rw [hFn]
 clear hF hFn
 simp only [o_as, skO, skD, List.map_cons, List.map_nil]
 generalize rowsD k a b rs = RD at *
 refine G0 ?_; try with_reducible exact tt
 refine AW.loopG (α := Nat) (fun i => setS (List.replicate 22 .junk) [(3, if i = 0 then .d .nilsl else .own 1 2 i), (9, .d (.sl rs.length RD)), (10, .d (.int .i64 rs.length)), (11, .d (.int .i64 (i : Int)))]) (fun i => some ⟨106, [.d (.int .i64 R), .d (.int .i64 C), .d (.int .i64 k), .d (.int .i64 a), .d (.int .i64 b), .d (.sl rs.length RD), .d (.int .i64 T)]⟩ :: (if i = 0 then [] else [some ⟨62, (F i).map .d⟩])) (fun i => i ≤ rs.length) (fun i => rs.length - i) 0 ?_ (Nat.zero_le _) ?_ ?_ ?_
 ·intro i hi; split <;> simp
 ·simp
 ·simp
 rintro i hi
 by_cases hiN : i < rs.length
 ·have hi1 : (i : Int) < rs.length := by omega
  have hg := hgt i hiN
  have hsn := hFs i hiN
  have hbd : i * 3 + 3 ≤ rs.length * 3 := by omega
  have ew : IntKind.i64.wrap ((i : Int) + 1) = (i : Int) + 1 := w64 (by omega) (by omega)
  generalize rs[i].a = x1 at *
  generalize rs[i].b = x2 at *
  generalize rs[i].l = x3 at *
  by_cases hi0 : i = 0
  ·subst hi0
   simp [hF0] at hg hsn
   simp
   refine A10 (fs hiN (fs hi1 (fs hg hl))) ?_; try with_reducible exact tt
   refine ⟨1, 1, 3, by simp, by omega, by omega, ?_, ?_⟩
   ·simp [swT, swH, sw, Ob.sw, V.ren, V.rens]
   ·simp [swT, swH, sw, Ob.sw, V.ren, V.rens, hsn]
  ·rw [if_neg hi0, if_neg hi0]
   have hfl := hFl i hi
   simp
   refine A10 (fs hiN (fs hi1 (fs hg (fs hl (fs hbd (fs hfl ew)))))) ?_; try with_reducible exact tt
   refine ⟨i + 1, 1, 4, by simp, by omega, by omega, ?_, ?_⟩
   ·simp [swT, swH, sw, Ob.sw, V.ren, V.rens]
   ·simp [swT, swH, sw, Ob.sw, V.ren, V.rens, hsn]
 ·have h2 : i = rs.length := by omega
  subst h2
  have hz : rs.length ≠ 0 := by omega
  rw [if_neg hz, if_neg hz]
  simp
  refine A00 ?_; try with_reducible exact tt

theorem o_22 {R C k a b T : Nat} (hg : GoodR k a b) (rs : List Rw) (hC : C ≤ 64) (i j : Nat) (hi : i < rs.length) (hn : rs.length ≤ 4) (hr : GoodRow C k a b rs[i]) (hj : j < C) :
  Eqn Tryz.prog o_at [.p 0 0, .d (.int .i64 i), .d (.int .i64 j)] [skO R C k a b rs T] (.tup [.d (tsD (rs[i].l.getD j (0, 0, false)).1 (rs[i].l.getD j (0, 0, false)).2.1 (rs[i].l.getD j (0, 0, false)).2.2), .d (.int .i64 0)]) [skO R C k a b rs T] := by
 refine Eqn.gen [0] o_lo (by simp) (by simp) (by rfl) (by decide) (by simp [tsD]) (by simp [skO, skD]) ?_
 obtain ⟨-, -, hl, hw⟩ := hr
 have hgt := o_4o rs[i].l j hg hw (by omega) (by omega)
 have hgr := o_4t k a b rs i hi
 have hrl := o_4s k a b rs
 have hg2 : ∀ h : i * 3 + 2 < (rowsD k a b rs).length, (rowsD k a b rs)[i * 3 + 2] = .ptr (arrD k a b rs[i].l) 0 := by
  intro h
  have := congrArg (fun l => l[2]?) hgr
  simp only [List.getElem?_take, List.getElem?_drop] at this
  rw [if_pos (by omega), List.getElem?_eq_getElem h] at this
  simpa using this
 simp only [o_au, skO, skD, List.map_cons, List.map_nil, tsD] at hgt ⊢
 generalize rowsD k a b rs = RD at *
 generalize arrD k a b rs[i].l = AD at *
 generalize rs[i].l.getD j (0, 0, false) = s at *
 have g1 : ¬ (i : Int) < 0 := by omega
 have g2 : (i : Int) < rs.length := by omega
 have g3 : ¬ (rs.length : Int) ≤ i := by omega
 have g4 : ¬ rs.length ≤ i := by omega
 have g5 : i * 3 < rs.length * 3 := by omega
 have g6 : i * 3 + 2 < rs.length * 3 := by omega
 refine A11 (fs g1 (fs g2 (fs g3 (fs g4 (fs g5 (fs g6 (fs hi (fs hg2 hrl)))))))) hgt ?_; try with_reducible exact tt

/-- the value of a key's register in a row; the least of them, of the first i rows -/
def valAt (C k a b key : Nat) (r : Rw) : Rat := valR k a b (r.l.getD (colOf C r.a r.b key) (0, 0, false)).1 (r.l.getD (colOf C r.a r.b key) (0, 0, false)).2.1
def leastQ (f : Nat → Rat) : Nat → Rat
 | 0 => 0
 | i + 1 => if i = 0 ∨ f i < leastQ f i then f i else leastQ f i
def valsOf (C k a b key : Nat) (rs : List Rw) (i : Nat) : Rat := match rs[i]? with
 | some r => valAt C k a b key r
 | none => 0
end
end Go.Proofs.YtijbgbpjionfjaaGreatDoor.Am
namespace Go.Proofs.YtijbgbpjionfjaaGreatDoor.Am
section
open Go.RowKit
/-- a draw, as data -/
def drD (r c k a b : Int) (ws : List Nat) : D := .agg [.int .i64 r, .int .i64 c, .int .i64 k, .int .i64 a, .int .i64 b, .sl ws.length (ws.map fun x : Nat => .int .u64 x)]

theorem o_uv (r c k a b : Int) (ws : List Nat) : ∃ R C K A B : Nat, GoodP R C K A B ∧ (R : Int) = 1 + bits BinOp.and IntKind.i64 r 3 ∧ Eqn Tryz.prog o_5n [.d (drD r c k a b ws)] [] (.d (cpD R C K A B)) [] := by
 obtain ⟨K, A, B, hsr, hsm⟩ := o_ur k a b
 obtain ⟨Y, T, F, hw, hs1⟩ := hsm 0 0 false
 have hown := o_uq K A B
 obtain ⟨r1, hr1, hr2, hr3⟩ := o_v r 3 (by omega)
 obtain ⟨c1, hc1, hc2, -⟩ := o_v c 255 (by omega)
 replace hr1 : bits BinOp.and IntKind.i64 r 3 = r1 := hr1
 replace hc1 : bits BinOp.and IntKind.i64 c 255 = c1 := hc1
 have e1 : IntKind.i64.wrap (1 + (c1 : Int) % 64) = ((1 + c1 % 64 : Nat) : Int) := by rw [w64 (by omega) (by omega)]; omega
 have e2 : (c1 : Int).tmod 64 = (c1 : Int) % 64 := by rw [Int.tmod_eq_emod_of_nonneg (by omega)]
 refine ⟨1 + r1, 1 + c1 % 64, K, A, B, ⟨by omega, by omega, by omega, by omega, o_up hsr⟩, by rw [hr1]; omega, ?_⟩
 refine Eqn.pure o_ld Plain.ok ?_
 simp only [o_a9, drD, parD, cpD, tsD] at hs1 hown ⊢
 refine A12 (fs hr1 (fs hr3 (fs hc1 (fs e1 e2)))) hs1 hown ?_; try with_reducible exact tt

/-- the numbers of a draw's hashes -/
def hnum (ws : List Nat) (i : Nat) : Nat := if i < ws.length then ws.getD i 0 % hP else i + 1
def drawH (ws : List Nat) (R : Nat) : List (Nat × Nat) := (List.range R).map fun i => (hnum ws (2 * i), hnum ws (2 * i + 1))
theorem o_j3 (ws : List Nat) {R : Nat} (h : R ≤ 4) : ∀ x ∈ drawH ws R, x.1 < hP ∧ x.2 < hP := by
 intro x hx
 obtain ⟨i, hi, rfl⟩ := List.mem_map.1 hx
 rw [List.mem_range] at hi
 have key : ∀ j, j ≤ 8 → hnum ws j < hP := by
  intro j hj
  unfold hnum
  split
  ·exact Nat.mod_lt _ (by decide)
  ·unfold hP; omega
 exact ⟨key _ (by omega), key _ (by omega)⟩

theorem o_uw (r c k a b : Int) (ws : List Nat) (hw : ws.length ≤ 9223372036854775807) (i : Nat) (hi : i ≤ 8) : Eqn Tryz.prog o_5q [.d (.int .i64 i), .p 0 0] [⟨26, [.d (.int .i64 r), .d (.int .i64 c), .d (.int .i64 k), .d (.int .i64 a), .d (.int .i64 b), .d (.sl ws.length (ws.map fun x : Nat => .int .u64 x))]⟩] (.d (.int .u64 (hnum ws i))) [⟨26, [.d (.int .i64 r), .d (.int .i64 c), .d (.int .i64 k), .d (.int .i64 a), .d (.int .i64 b), .d (.sl ws.length (ws.map fun x : Nat => .int .u64 x))]⟩] := by
 refine Eqn.gen [0] o_m3 (by simp) (by simp) (by rfl) (by decide) (by simp) (by simp) ?_
 simp only [o_bl]
 unfold hnum hP
 by_cases h : i < ws.length
 ·have h1 : (i : Int) < ws.length := by omega
  have e : (ws.getD i 0) = ws[i] := by simp [List.getD, h]
  have e2 : (ws[i] : Int).tmod 2305843009213693951 = (ws[i] : Int) % 2305843009213693951 := by rw [Int.tmod_eq_emod_of_nonneg (by omega)]
  rw [if_pos h, e]
  refine A10 (fs h (fs h1 e2)) ?_; try with_reducible exact tt
 ·have h1 : ¬ (i : Int) < ws.length := by omega
  have e1 : IntKind.i64.wrap ((i : Int) + 1) = ((i + 1 : Nat) : Int) := by rw [w64 (by omega) (by omega)]; omega
  have e2 : IntKind.u64.wrap ((i : Int) + 1) = (i : Int) + 1 := by rw [IntKind.wrap_u64]; omega
  rw [if_neg h]
  refine A10 (fs h (fs h1 (fs e1 e2))) ?_; try with_reducible exact tt

theorem o_ux (r c k a b : Int) (ws : List Nat) (hw : ws.length ≤ 9223372036854775807) (R : Nat) (hR : (R : Int) = 1 + bits BinOp.and IntKind.i64 r 3) (h1 : 1 ≤ R) (h4 : R ≤ 4) : Eqn Tryz.prog o_ac [.d (drD r c k a b ws)] [] (.own 0 2 R) [⟨62, (hashesD (drawH ws R)).map .d⟩] := by
 refine Eqn.gen [1] o_lf (by simp) (by simp) (by rfl) (by decide) (by simp) (by simp) ?_
 obtain ⟨r1, hr1, hr2, hr3⟩ := o_v r 3 (by omega)
 replace hr1 : bits BinOp.and IntKind.i64 r 3 = r1 := hr1
 rw [hr1] at hR
 obtain rfl : R = 1 + r1 := by omega
 have hnn := fun i hi => o_uw r c k a b ws hw i hi
 obtain ⟨F, hF⟩ : ∃ F : Nat → List D, F = fun i => hashesD (drawH ws i) := ⟨_, rfl⟩
 have hF0 : F 0 = [] := by rw [hF]; simp [hashesD, drawH]
 have hFn : hashesD (drawH ws (1 + r1)) = F (1 + r1) := by rw [hF]
 have hFl : ∀ i, (F i).length = i * 2 := by
  intro i
  rw [hF]
  show (hashesD (drawH ws i)).length = i * 2
  unfold hashesD
  rw [o_z (n := 2) (fun x => by simp), drawH, List.length_map, List.length_range]
 have hFs : ∀ i, F (i + 1) = F i ++ [.int .u64 (hnum ws (2 * i)), .int .u64 (hnum ws (2 * i + 1))] := by
  intro i
  rw [hF]
  show hashesD (drawH ws (i + 1)) = hashesD (drawH ws i) ++ _
  rw [drawH, List.range_succ, List.map_append, hashesD, List.flatMap_append]; simp [hashesD, drawH]
 rw [hFn]
 clear hF hFn
 simp only [o_ad, drD]
 generalize hWD : (ws.map fun x : Nat => D.int .u64 x) = WD at *
 refine A10 (fs hr1 hr3) ?_; try with_reducible exact tt
 refine AW.loopG (α := Nat) (fun i => setS (List.replicate 29 .junk) [(3, if i = 0 then .d .nilsl else .own 1 2 i), (4, .fn (.func o_5q) [.p 0 0]), (10, .d (.int .i64 (1 + r1 : Nat))), (11, .d (.int .i64 (i : Int)))]) (fun i => some ⟨26, [.d (.int .i64 r), .d (.int .i64 c), .d (.int .i64 k), .d (.int .i64 a), .d (.int .i64 b), .d (.sl ws.length WD)]⟩ :: (if i = 0 then [] else [some ⟨62, (F i).map .d⟩])) (fun i => i ≤ 1 + r1) (fun i => 1 + r1 - i) 0 ?_ (Nat.zero_le _) ?_ ?_ ?_
 ·intro i hi; split <;> simp
 ·simp
 ·simp
 rintro i hi
 by_cases hiN : i < 1 + r1
 ·have hi1 : (i : Int) < 1 + (r1 : Int) := by omega
  have hsn := hFs i
  have ew : IntKind.i64.wrap ((i : Int) + 1) = (i : Int) + 1 := w64 (by omega) (by omega)
  by_cases hi0 : i = 0
  ·subst hi0
   have q1 := hnn 0 (by omega)
   have q2 := hnn 1 (by omega)
   have hi2 : (0 : Int) < 1 + (r1 : Int) := by omega
   have m1 : IntKind.i64.wrap 1 = 1 := by decide
   have m0 : IntKind.i64.wrap 0 = 0 := by decide
   simp [hF0] at hsn
   simp
   refine A10 (fs hi2 m0) ?_; try with_reducible exact tt
   refine CallS.g [0] (q1) (R1 m1 ?_); try with_reducible exact tt
   refine CallS.g [0] (q2) (R0 ?_); try with_reducible exact tt
   refine ⟨1, 1, 2, by simp, by omega, by omega, ?_, ?_⟩
   ·simp [swT, swH, sw, Ob.sw, V.ren, V.rens]
   ·simp [swT, swH, sw, Ob.sw, V.ren, V.rens, hsn]
  ·have q1 := hnn (2 * i) (by omega)
   have q2 := hnn (2 * i + 1) (by omega)
   have m1 : IntKind.i64.wrap (2 * (i : Int)) = ((2 * i : Nat) : Int) := by rw [w64 (by omega) (by omega)]; omega
   have m2 : IntKind.i64.wrap (2 * (i : Int) + 1) = ((2 * i + 1 : Nat) : Int) := by rw [w64 (by omega) (by omega)]; omega
   have m3 : ((2 * i : Nat) : Int) = 2 * (i : Int) := by omega
   generalize hnum ws (2 * i) = x1 at *
   generalize hnum ws (2 * i + 1) = x2 at *
   rw [if_neg hi0, if_neg hi0]
   have hfl := hFl i
   simp
   refine A10 (fs hiN hi1) ?_; try with_reducible exact tt
   refine CallS.g [0] (q1) (R0 ?_); try with_reducible exact tt
   refine CallS.g [0] (q2) (R1 (fs hfl ew) ?_); try with_reducible exact tt
   refine ⟨i + 1, 1, 3, by simp, by omega, by omega, ?_, ?_⟩
   ·simp [swT, swH, sw, Ob.sw, V.ren, V.rens]
   ·simp [swT, swH, sw, Ob.sw, V.ren, V.rens, hsn]
 ·have h2 : i = 1 + r1 := by omega
  subst h2
  have hz : 1 + r1 ≠ 0 := by omega
  rw [if_neg hz, if_neg hz]
  simp
  refine A00 ?_; try with_reducible exact tt

/-- updates, as data -/
def updD (l : List (Nat × Int)) : List D := l.flatMap fun u => [.int .u64 u.1, .int .i64 u.2]
end
end Go.Proofs.YtijbgbpjionfjaaGreatDoor.Am
namespace Go.Proofs.YtijbgbpjionfjaaGreatDoor.Am
section
open Go.RowKit
/-- what an update comes to -/
structure UR where
 e : Int
 rs : List Rw
 p : Nat
 d : Bool
/-- a row's register, with so many more -/
def updR (cs : List Bool) (C k a b key n : Nat) (r : Rw) (p : Nat) (d : Bool) : TR := addRM cs k a b n (r.l.getD (colOf C r.a r.b key) (0, 0, false)).1 (r.l.getD (colOf C r.a r.b key) (0, 0, false)).2.1 (r.l.getD (colOf C r.a r.b key) (0, 0, false)).2.2 p d
def updC (r : Rw) (l : List ST) (Z : TR) (U : UR) : UR := if Z.e = 0 then ⟨U.e, ⟨r.a, r.b, l⟩ :: U.rs, U.p, U.d⟩ else ⟨Z.e, [], Z.p, Z.d⟩
def updM (cs : List Bool) (C k a b key n : Nat) : List Rw → Nat → Bool → UR
 | [], p, d => ⟨0, [], p, d⟩
 | r :: rs, p, d => updC r (r.l.set (colOf C r.a r.b key) ((updR cs C k a b key n r p d).y, (updR cs C k a b key n r p d).t, (updR cs C k a b key n r p d).f)) (updR cs C k a b key n r p d) (updM cs C k a b key n rs (updR cs C k a b key n r p d).p (updR cs C k a b key n r p d).d)

theorem o_j4 {C k a b T : Nat} (hg : GoodR k a b) (g1 : 1 ≤ C) (g2 : C ≤ 64) (A0 B0 A1 B1 : Nat) (l0 l1 : List ST) (h0 : GoodRow C k a b ⟨A0, B0, l0⟩) (h1 : GoodRow C k a b ⟨A1, B1, l1⟩) :
  Eqn Tryz.prog o_o [.p 0 0] [skO 2 C k a b [⟨A0, B0, l0⟩, ⟨A1, B1, l1⟩] T] (.p 1 0) [skO 2 C k a b [⟨A0, B0, l0⟩, ⟨A1, B1, l1⟩] T, ⟨106, [.d (.int .i64 (2 : Nat)), .d (.int .i64 C), .d (.int .i64 k), .d (.int .i64 a), .d (.int .i64 b), .own 2 3 2, .d (.int .i64 T)]⟩, ⟨111, [.d (.int .u64 A0), .d (.int .u64 B0), .p 3 0, .d (.int .u64 A1), .d (.int .u64 B1), .p 6 0]⟩, arrO 4 k a b, arrV 5 k a b l0, arrB k a b l0, arrO 7 k a b, arrV 8 k a b l1, arrB k a b l1] := by
 obtain ⟨-, -, e0, -⟩ := h0
 simp only at e0
 obtain ⟨-, -, e1, -⟩ := h1
 simp only at e1
 refine Eqn.gen [0, 1, 2, 4, 5, 6, 8, 9, 10] o_10 (by simp) (by simp) (by rfl) (by decide) (by simp) (by simp [skO, skD, arrO, arrV, arrB, vecO, vecB, u64s]) ?_
 have hc := o_15 2 [.int .u64 A0, .int .u64 B0, .ptr (arrD k a b l0) 0, .int .u64 A1, .int .u64 B1, .ptr (arrD k a b l1) 0] (by omega) rfl (by omega)
 have d0 := o_7 l0 hg (by omega) (by omega)
 have d1 := o_7 l1 hg (by omega) (by omega)
 simp only [o_t, skO, skD, rowsD, rowD, List.flatMap_cons, List.flatMap_nil, List.append_nil, List.cons_append, List.nil_append, List.map_cons, List.map_nil, List.length_cons, List.length_nil, arrO, arrV, arrB, vecO, vecB, e0, e1] at hc d0 d1 ⊢
 generalize arrD k a b l0 = AD0 at *
 generalize wordsP (wdR k a b) (encs k a b l0) = WS0 at *
 generalize arrD k a b l1 = AD1 at *
 generalize wordsP (wdR k a b) (encs k a b l1) = WS1 at *
 generalize nwP C (wdR k a b) = NW at *
 generalize wdR k a b = w at *
 refine G0 ?_; try with_reducible exact tt
 refine CallS.g [] (hc) (R0 ?_); try with_reducible exact tt
 refine AW.rounds 3 ?_
 refine A00 ?_; try with_reducible exact tt
 refine CallS.g [] (d0) (R0 ?_); try with_reducible exact tt
 refine A00 ?_; try with_reducible exact tt
 refine CallS.g [] (d1) (R0 ?_); try with_reducible exact tt
 refine A00 ?_; try with_reducible exact tt

set_option maxHeartbeats 4000000 in
theorem o_uy {C k a b T : Nat} (hg : GoodR k a b) (g1 : 1 ≤ C) (g2 : C ≤ 64) (A0 B0 A1 B1 : Nat) (l0 l1 : List ST) (h0 : GoodRow C k a b ⟨A0, B0, l0⟩) (h1 : GoodRow C k a b ⟨A1, B1, l1⟩) (cs : List Bool) (key n p : Nat) (d : Bool) (hk : key < hP) (hn : n ≤ 1048576) (hT : T + n ≤ 1099511627776) (hp : p ≤ cs.length) (hc : cs.length ≤ 4000000) (U : UR) (hU : U = updM cs C k a b key n [⟨A0, B0, l0⟩, ⟨A1, B1, l1⟩] p d) :
  Eqn Tryz.prog o_1p [.p 0 0, .p 1 0, .d (.int .u64 key), .d (.int .i64 n)] [skO 2 C k a b [⟨A0, B0, l0⟩, ⟨A1, B1, l1⟩] T, tapeO cs p d] (.d (.int .i64 U.e)) [if U.e = 0 then skO 2 C k a b U.rs (T + n) else skO 2 C k a b [⟨A0, B0, l0⟩, ⟨A1, B1, l1⟩] T, tapeO cs U.p U.d] := by
 have hcl := o_j4 (T := T) hg g1 g2 A0 B0 A1 B1 l0 l1 h0 h1
 obtain ⟨a0, b0, e0, w0⟩ := h0
 simp only at a0 b0 e0 w0
 have c0 : colOf C A0 B0 key < C := Nat.mod_lt _ (by omega)
 have o0 := o_l A0 B0 key C a0 b0 hk g1 g2
 rw [show hsum A0 B0 key % C = colOf C A0 B0 key from rfl] at o0
 obtain ⟨Z0, z0⟩ : ∃ Z, Z = updR cs C k a b key n ⟨A0, B0, l0⟩ p d := ⟨_, rfl⟩
 have p0 : Z0.p ≤ cs.length := by rw [z0]; exact (o_k hg (o_5 w0 (show colOf C A0 B0 key < l0.length by omega)) hp hc).1
 have x0 := o_q cs l0 (colOf C A0 B0 key) n p d hg w0 (by omega) (by omega) hn hp hc Z0 z0
 obtain ⟨a1, b1, e1, w1⟩ := h1
 simp only at a1 b1 e1 w1
 have c1 : colOf C A1 B1 key < C := Nat.mod_lt _ (by omega)
 have o1 := o_l A1 B1 key C a1 b1 hk g1 g2
 rw [show hsum A1 B1 key % C = colOf C A1 B1 key from rfl] at o1
 obtain ⟨Z1, z1⟩ : ∃ Z, Z = updR cs C k a b key n ⟨A1, B1, l1⟩ Z0.p Z0.d := ⟨_, rfl⟩
 have p1 : Z1.p ≤ cs.length := by rw [z1]; exact (o_k hg (o_5 w1 (show colOf C A1 B1 key < l1.length by omega)) p0 hc).1
 have x1 := o_q cs l1 (colOf C A1 B1 key) n Z0.p Z0.d hg w1 (by omega) (by omega) hn p0 hc Z1 z1
 simp only [updM] at hU
 rw [← z0] at hU
 rw [← z1] at hU
 clear z0 p0 z1 p1
 have D0 : arrD k a b (l0.set (colOf C A0 B0 key) (Z0.y, Z0.t, Z0.f)) = [.ptr [.sl (nwP C (wdR k a b)) ((wordsP (wdR k a b) (encs k a b (l0.set (colOf C A0 B0 key) (Z0.y, Z0.t, Z0.f)))).map fun x : Nat => D.int .u64 x), .int .i64 C, .int .i64 (wdR k a b)] 0, .int .i64 k, .int .i64 a, .int .i64 b] := by simp [arrD, vecD, e0]
 have L0 : ((wordsP (wdR k a b) (encs k a b (l0.set (colOf C A0 B0 key) (Z0.y, Z0.t, Z0.f)))).map fun x : Nat => D.int .u64 x).length = nwP C (wdR k a b) := by simp [e0]
 have u0 : u64s (wordsP (wdR k a b) (encs k a b (l0.set (colOf C A0 B0 key) (Z0.y, Z0.t, Z0.f)))) = ((wordsP (wdR k a b) (encs k a b (l0.set (colOf C A0 B0 key) (Z0.y, Z0.t, Z0.f)))).map fun x : Nat => D.int .u64 x).map V.d := by simp [u64s]
 have D1 : arrD k a b (l1.set (colOf C A1 B1 key) (Z1.y, Z1.t, Z1.f)) = [.ptr [.sl (nwP C (wdR k a b)) ((wordsP (wdR k a b) (encs k a b (l1.set (colOf C A1 B1 key) (Z1.y, Z1.t, Z1.f)))).map fun x : Nat => D.int .u64 x), .int .i64 C, .int .i64 (wdR k a b)] 0, .int .i64 k, .int .i64 a, .int .i64 b] := by simp [arrD, vecD, e1]
 have L1 : ((wordsP (wdR k a b) (encs k a b (l1.set (colOf C A1 B1 key) (Z1.y, Z1.t, Z1.f)))).map fun x : Nat => D.int .u64 x).length = nwP C (wdR k a b) := by simp [e1]
 have u1 : u64s (wordsP (wdR k a b) (encs k a b (l1.set (colOf C A1 B1 key) (Z1.y, Z1.t, Z1.f)))) = ((wordsP (wdR k a b) (encs k a b (l1.set (colOf C A1 B1 key) (Z1.y, Z1.t, Z1.f)))).map fun x : Nat => D.int .u64 x).map V.d := by simp [u64s]
 refine Eqn.gen [0, 1] o_3b (by simp) (by simp) (by rfl) (by decide) (by simp) (by intro ob hob; simp at hob; rcases hob with rfl | rfl; (split <;> simp [skO, skD]); simp [tapeO]) ?_
 have q1 : ¬ (2305843009213693951 : Int) ≤ key := by unfold hP at hk; omega
 have q2 : ¬ 2305843009213693951 ≤ key := by unfold hP at hk; omega
 have q3 : ¬ (n : Int) < 0 := by omega
 have q4 : ¬ (1048576 : Int) < n := by omega
 have q5 : ¬ 1048576 < n := by omega
 have q6 : IntKind.i64.wrap ((T : Int) + n) = ((T + n : Nat) : Int) := by rw [w64 (by omega) (by omega)]; omega
 have q7 : ¬ (1099511627776 : Int) < (T : Int) + n := by omega
 have q8 : ¬ 1099511627776 < T + n := by omega
 have es : ∀ rs : List Rw, rs.length = 2 → (skO 2 C k a b rs (T + n)) = ⟨106, [.d (.int .i64 (2 : Nat)), .d (.int .i64 C), .d (.int .i64 k), .d (.int .i64 a), .d (.int .i64 b), .d (.sl 2 (rowsD k a b rs)), .d (.int .i64 (T + n : Nat))]⟩ := by intro rs h; simp [skO, skD, h]
 have eo : skO 2 C k a b [⟨A0, B0, l0⟩, ⟨A1, B1, l1⟩] T = ⟨106, [.d (.int .i64 (2 : Nat)), .d (.int .i64 C), .d (.int .i64 k), .d (.int .i64 a), .d (.int .i64 b), .d (.sl 2 [.int .u64 A0, .int .u64 B0, .ptr (arrD k a b l0) 0, .int .u64 A1, .int .u64 B1, .ptr (arrD k a b l1) 0]), .d (.int .i64 T)]⟩ := by simp [skO, skD, rowsD, rowD]
 rw [eo] at hcl ⊢
 simp only [o_2b, arrO, arrV, arrB, vecO, vecB, hD, List.length_set, e0, e1] at hcl o0 o1 x0 x1 ⊢
 generalize hl0 : l0.set (colOf C A0 B0 key) (Z0.y, Z0.t, Z0.f) = m0 at *
 generalize colOf C A0 B0 key = col0 at *
 generalize arrD k a b l0 = AD0 at *
 obtain ⟨E0, Y0, T0, F0, P0, G0⟩ := Z0
 simp only at x0 hU
 generalize hl1 : l1.set (colOf C A1 B1 key) (Z1.y, Z1.t, Z1.f) = m1 at *
 generalize colOf C A1 B1 key = col1 at *
 generalize arrD k a b l1 = AD1 at *
 obtain ⟨E1, Y1, T1, F1, P1, G1⟩ := Z1
 simp only at x1 hU
 generalize nwP C (wdR k a b) = NW at *
 refine A10 (fs q1 (fs q2 (fs q3 (fs q4 (fs q5 (fs q6 (fs q7 q8))))))) ?_; try with_reducible exact tt
 refine CallS.g [0] (hcl) (R0 ?_); try with_reducible exact tt
 refine AW.rounds 3 ?_
 refine A01 o0 ?_; try with_reducible exact tt
 by_cases E00 : E0 = 0
 ·simp only [E00, if_true, u0] at x0
  generalize ((wordsP (wdR k a b) (encs k a b m0)).map fun x : Nat => D.int .u64 x) = WD0 at *
  refine CallS.g [4, 5, 6, 1] (x0) (R0 ?_); try with_reducible exact tt
  refine A01 o1 ?_; try with_reducible exact tt
  by_cases E10 : E1 = 0
  ·simp only [E10, if_true, u1] at x1
   generalize ((wordsP (wdR k a b) (encs k a b m1)).map fun x : Nat => D.int .u64 x) = WD1 at *
   refine CallS.g [7, 8, 9, 1] (x1) (R0 ?_); try with_reducible exact tt
   simp only [updC, if_true, E00, E10] at hU
   subst hU
   simp only [if_true]
   rw [es _ rfl]
   simp only [rowsD, rowD, List.flatMap_cons, List.flatMap_nil, List.append_nil, List.cons_append, List.nil_append, D0, D1]
   have t0 : WD0.take NW = WD0 := List.take_of_length_le (by omega)
   have t1 : WD1.take NW = WD1 := List.take_of_length_le (by omega)
   generalize wdR k a b = w at *
   refine AW.freeze 6 1 ⟨28, WD0.map V.d⟩ WD0 (by simp) rfl ?_
   simp [frzH, t0]
   refine AW.freeze 5 1 ⟨218, [.d (.sl NW WD0), .d (.int .i64 C), .d (.int .i64 w)]⟩ [.sl NW WD0, .int .i64 C, .int .i64 w] (by rfl) rfl ?_
   simp [frzH]
   refine AW.freeze 4 1 ⟨166, [.d (.ptr [.sl NW WD0, .int .i64 C, .int .i64 w] 0), .d (.int .i64 k), .d (.int .i64 a), .d (.int .i64 b)]⟩ [.ptr [.sl NW WD0, .int .i64 C, .int .i64 w] 0, .int .i64 k, .int .i64 a, .int .i64 b] (by rfl) rfl ?_
   simp [frzH]
   refine AW.freeze 9 1 ⟨28, WD1.map V.d⟩ WD1 (by simp) rfl ?_
   simp [frzH, t1]
   refine AW.freeze 8 1 ⟨218, [.d (.sl NW WD1), .d (.int .i64 C), .d (.int .i64 w)]⟩ [.sl NW WD1, .int .i64 C, .int .i64 w] (by rfl) rfl ?_
   simp [frzH]
   refine AW.freeze 7 1 ⟨166, [.d (.ptr [.sl NW WD1, .int .i64 C, .int .i64 w] 0), .d (.int .i64 k), .d (.int .i64 a), .d (.int .i64 b)]⟩ [.ptr [.sl NW WD1, .int .i64 C, .int .i64 w] 0, .int .i64 k, .int .i64 a, .int .i64 b] (by rfl) rfl ?_
   simp [frzH]
   refine AW.freeze 3 3 ⟨111, [.int .u64 A0, .int .u64 B0, .ptr [.ptr [.sl NW WD0, .int .i64 C, .int .i64 w] 0, .int .i64 k, .int .i64 a, .int .i64 b] 0, .int .u64 A1, .int .u64 B1, .ptr [.ptr [.sl NW WD1, .int .i64 C, .int .i64 w] 0, .int .i64 k, .int .i64 a, .int .i64 b] 0].map V.d⟩ [.int .u64 A0, .int .u64 B0, .ptr [.ptr [.sl NW WD0, .int .i64 C, .int .i64 w] 0, .int .i64 k, .int .i64 a, .int .i64 b] 0, .int .u64 A1, .int .u64 B1, .ptr [.ptr [.sl NW WD1, .int .i64 C, .int .i64 w] 0, .int .i64 k, .int .i64 a, .int .i64 b] 0] (by rfl) rfl ?_
   simp [frzH]
   refine A10 q6 ?_; try with_reducible exact tt
  ·simp only [if_neg E10] at x1
   simp only [updC, if_true, if_neg E10, E00] at hU
   refine CallS.g [7, 8, 9, 1] (x1) (R0 ?_); try with_reducible exact tt
   subst hU
   simp only [if_neg E10]
   refine A10 E10 ?_; try with_reducible exact tt
 ·simp only [if_neg E00] at x0
  simp only [updC, if_true, if_neg E00] at hU
  refine CallS.g [4, 5, 6, 1] (x0) (R0 ?_); try with_reducible exact tt
  subst hU
  simp only [if_neg E00]
  refine A10 E00 ?_; try with_reducible exact tt


theorem o_j5 {C k a b T : Nat} (hg : GoodR k a b) (g1 : 1 ≤ C) (g2 : C ≤ 64) (A0 B0 A1 B1 A2 B2 : Nat) (l0 l1 l2 : List ST) (h0 : GoodRow C k a b ⟨A0, B0, l0⟩) (h1 : GoodRow C k a b ⟨A1, B1, l1⟩) (h2 : GoodRow C k a b ⟨A2, B2, l2⟩) :
  Eqn Tryz.prog o_o [.p 0 0] [skO 3 C k a b [⟨A0, B0, l0⟩, ⟨A1, B1, l1⟩, ⟨A2, B2, l2⟩] T] (.p 1 0) [skO 3 C k a b [⟨A0, B0, l0⟩, ⟨A1, B1, l1⟩, ⟨A2, B2, l2⟩] T, ⟨106, [.d (.int .i64 (3 : Nat)), .d (.int .i64 C), .d (.int .i64 k), .d (.int .i64 a), .d (.int .i64 b), .own 2 3 3, .d (.int .i64 T)]⟩, ⟨111, [.d (.int .u64 A0), .d (.int .u64 B0), .p 3 0, .d (.int .u64 A1), .d (.int .u64 B1), .p 6 0, .d (.int .u64 A2), .d (.int .u64 B2), .p 9 0]⟩, arrO 4 k a b, arrV 5 k a b l0, arrB k a b l0, arrO 7 k a b, arrV 8 k a b l1, arrB k a b l1, arrO 10 k a b, arrV 11 k a b l2, arrB k a b l2] := by
 obtain ⟨-, -, e0, -⟩ := h0
 simp only at e0
 obtain ⟨-, -, e1, -⟩ := h1
 simp only at e1
 obtain ⟨-, -, e2, -⟩ := h2
 simp only at e2
 refine Eqn.gen [0, 1, 2, 4, 5, 6, 8, 9, 10, 12, 13, 14] o_10 (by simp) (by simp) (by rfl) (by decide) (by simp) (by simp [skO, skD, arrO, arrV, arrB, vecO, vecB, u64s]) ?_
 have hc := o_15 3 [.int .u64 A0, .int .u64 B0, .ptr (arrD k a b l0) 0, .int .u64 A1, .int .u64 B1, .ptr (arrD k a b l1) 0, .int .u64 A2, .int .u64 B2, .ptr (arrD k a b l2) 0] (by omega) rfl (by omega)
 have d0 := o_7 l0 hg (by omega) (by omega)
 have d1 := o_7 l1 hg (by omega) (by omega)
 have d2 := o_7 l2 hg (by omega) (by omega)
 simp only [o_t, skO, skD, rowsD, rowD, List.flatMap_cons, List.flatMap_nil, List.append_nil, List.cons_append, List.nil_append, List.map_cons, List.map_nil, List.length_cons, List.length_nil, arrO, arrV, arrB, vecO, vecB, e0, e1, e2] at hc d0 d1 d2 ⊢
 generalize arrD k a b l0 = AD0 at *
 generalize wordsP (wdR k a b) (encs k a b l0) = WS0 at *
 generalize arrD k a b l1 = AD1 at *
 generalize wordsP (wdR k a b) (encs k a b l1) = WS1 at *
 generalize arrD k a b l2 = AD2 at *
 generalize wordsP (wdR k a b) (encs k a b l2) = WS2 at *
 generalize nwP C (wdR k a b) = NW at *
 generalize wdR k a b = w at *
 refine G0 ?_; try with_reducible exact tt
 refine CallS.g [] (hc) (R0 ?_); try with_reducible exact tt
 refine AW.rounds 4 ?_
 refine A00 ?_; try with_reducible exact tt
 refine CallS.g [] (d0) (R0 ?_); try with_reducible exact tt
 refine A00 ?_; try with_reducible exact tt
 refine CallS.g [] (d1) (R0 ?_); try with_reducible exact tt
 refine A00 ?_; try with_reducible exact tt
 refine CallS.g [] (d2) (R0 ?_); try with_reducible exact tt
 refine A00 ?_; try with_reducible exact tt

set_option maxHeartbeats 4000000 in
theorem o_uz {C k a b T : Nat} (hg : GoodR k a b) (g1 : 1 ≤ C) (g2 : C ≤ 64) (A0 B0 A1 B1 A2 B2 : Nat) (l0 l1 l2 : List ST) (h0 : GoodRow C k a b ⟨A0, B0, l0⟩) (h1 : GoodRow C k a b ⟨A1, B1, l1⟩) (h2 : GoodRow C k a b ⟨A2, B2, l2⟩) (cs : List Bool) (key n p : Nat) (d : Bool) (hk : key < hP) (hn : n ≤ 1048576) (hT : T + n ≤ 1099511627776) (hp : p ≤ cs.length) (hc : cs.length ≤ 4000000) (U : UR) (hU : U = updM cs C k a b key n [⟨A0, B0, l0⟩, ⟨A1, B1, l1⟩, ⟨A2, B2, l2⟩] p d) :
  Eqn Tryz.prog o_1p [.p 0 0, .p 1 0, .d (.int .u64 key), .d (.int .i64 n)] [skO 3 C k a b [⟨A0, B0, l0⟩, ⟨A1, B1, l1⟩, ⟨A2, B2, l2⟩] T, tapeO cs p d] (.d (.int .i64 U.e)) [if U.e = 0 then skO 3 C k a b U.rs (T + n) else skO 3 C k a b [⟨A0, B0, l0⟩, ⟨A1, B1, l1⟩, ⟨A2, B2, l2⟩] T, tapeO cs U.p U.d] := by
 have hcl := o_j5 (T := T) hg g1 g2 A0 B0 A1 B1 A2 B2 l0 l1 l2 h0 h1 h2
 obtain ⟨a0, b0, e0, w0⟩ := h0
 simp only at a0 b0 e0 w0
 have c0 : colOf C A0 B0 key < C := Nat.mod_lt _ (by omega)
 have o0 := o_l A0 B0 key C a0 b0 hk g1 g2
 rw [show hsum A0 B0 key % C = colOf C A0 B0 key from rfl] at o0
 obtain ⟨Z0, z0⟩ : ∃ Z, Z = updR cs C k a b key n ⟨A0, B0, l0⟩ p d := ⟨_, rfl⟩
 have p0 : Z0.p ≤ cs.length := by rw [z0]; exact (o_k hg (o_5 w0 (show colOf C A0 B0 key < l0.length by omega)) hp hc).1
 have x0 := o_q cs l0 (colOf C A0 B0 key) n p d hg w0 (by omega) (by omega) hn hp hc Z0 z0
 obtain ⟨a1, b1, e1, w1⟩ := h1
 simp only at a1 b1 e1 w1
 have c1 : colOf C A1 B1 key < C := Nat.mod_lt _ (by omega)
 have o1 := o_l A1 B1 key C a1 b1 hk g1 g2
 rw [show hsum A1 B1 key % C = colOf C A1 B1 key from rfl] at o1
 obtain ⟨Z1, z1⟩ : ∃ Z, Z = updR cs C k a b key n ⟨A1, B1, l1⟩ Z0.p Z0.d := ⟨_, rfl⟩
 have p1 : Z1.p ≤ cs.length := by rw [z1]; exact (o_k hg (o_5 w1 (show colOf C A1 B1 key < l1.length by omega)) p0 hc).1
 have x1 := o_q cs l1 (colOf C A1 B1 key) n Z0.p Z0.d hg w1 (by omega) (by omega) hn p0 hc Z1 z1
 obtain ⟨a2, b2, e2, w2⟩ := h2
 simp only at a2 b2 e2 w2
 have c2 : colOf C A2 B2 key < C := Nat.mod_lt _ (by omega)
 have o2 := o_l A2 B2 key C a2 b2 hk g1 g2
 rw [show hsum A2 B2 key % C = colOf C A2 B2 key from rfl] at o2
 obtain ⟨Z2, z2⟩ : ∃ Z, Z = updR cs C k a b key n ⟨A2, B2, l2⟩ Z1.p Z1.d := ⟨_, rfl⟩
 have p2 : Z2.p ≤ cs.length := by rw [z2]; exact (o_k hg (o_5 w2 (show colOf C A2 B2 key < l2.length by omega)) p1 hc).1
 have x2 := o_q cs l2 (colOf C A2 B2 key) n Z1.p Z1.d hg w2 (by omega) (by omega) hn p1 hc Z2 z2
 simp only [updM] at hU
 rw [← z0] at hU
 rw [← z1] at hU
 rw [← z2] at hU
 clear z0 p0 z1 p1 z2 p2
 have D0 : arrD k a b (l0.set (colOf C A0 B0 key) (Z0.y, Z0.t, Z0.f)) = [.ptr [.sl (nwP C (wdR k a b)) ((wordsP (wdR k a b) (encs k a b (l0.set (colOf C A0 B0 key) (Z0.y, Z0.t, Z0.f)))).map fun x : Nat => D.int .u64 x), .int .i64 C, .int .i64 (wdR k a b)] 0, .int .i64 k, .int .i64 a, .int .i64 b] := by simp [arrD, vecD, e0]
 have L0 : ((wordsP (wdR k a b) (encs k a b (l0.set (colOf C A0 B0 key) (Z0.y, Z0.t, Z0.f)))).map fun x : Nat => D.int .u64 x).length = nwP C (wdR k a b) := by simp [e0]
 have u0 : u64s (wordsP (wdR k a b) (encs k a b (l0.set (colOf C A0 B0 key) (Z0.y, Z0.t, Z0.f)))) = ((wordsP (wdR k a b) (encs k a b (l0.set (colOf C A0 B0 key) (Z0.y, Z0.t, Z0.f)))).map fun x : Nat => D.int .u64 x).map V.d := by simp [u64s]
 have D1 : arrD k a b (l1.set (colOf C A1 B1 key) (Z1.y, Z1.t, Z1.f)) = [.ptr [.sl (nwP C (wdR k a b)) ((wordsP (wdR k a b) (encs k a b (l1.set (colOf C A1 B1 key) (Z1.y, Z1.t, Z1.f)))).map fun x : Nat => D.int .u64 x), .int .i64 C, .int .i64 (wdR k a b)] 0, .int .i64 k, .int .i64 a, .int .i64 b] := by simp [arrD, vecD, e1]
 have L1 : ((wordsP (wdR k a b) (encs k a b (l1.set (colOf C A1 B1 key) (Z1.y, Z1.t, Z1.f)))).map fun x : Nat => D.int .u64 x).length = nwP C (wdR k a b) := by simp [e1]
 have u1 : u64s (wordsP (wdR k a b) (encs k a b (l1.set (colOf C A1 B1 key) (Z1.y, Z1.t, Z1.f)))) = ((wordsP (wdR k a b) (encs k a b (l1.set (colOf C A1 B1 key) (Z1.y, Z1.t, Z1.f)))).map fun x : Nat => D.int .u64 x).map V.d := by simp [u64s]
 have D2 : arrD k a b (l2.set (colOf C A2 B2 key) (Z2.y, Z2.t, Z2.f)) = [.ptr [.sl (nwP C (wdR k a b)) ((wordsP (wdR k a b) (encs k a b (l2.set (colOf C A2 B2 key) (Z2.y, Z2.t, Z2.f)))).map fun x : Nat => D.int .u64 x), .int .i64 C, .int .i64 (wdR k a b)] 0, .int .i64 k, .int .i64 a, .int .i64 b] := by simp [arrD, vecD, e2]
 have L2 : ((wordsP (wdR k a b) (encs k a b (l2.set (colOf C A2 B2 key) (Z2.y, Z2.t, Z2.f)))).map fun x : Nat => D.int .u64 x).length = nwP C (wdR k a b) := by simp [e2]
 have u2 : u64s (wordsP (wdR k a b) (encs k a b (l2.set (colOf C A2 B2 key) (Z2.y, Z2.t, Z2.f)))) = ((wordsP (wdR k a b) (encs k a b (l2.set (colOf C A2 B2 key) (Z2.y, Z2.t, Z2.f)))).map fun x : Nat => D.int .u64 x).map V.d := by simp [u64s]
 refine Eqn.gen [0, 1] o_3b (by simp) (by simp) (by rfl) (by decide) (by simp) (by intro ob hob; simp at hob; rcases hob with rfl | rfl; (split <;> simp [skO, skD]); simp [tapeO]) ?_
 have q1 : ¬ (2305843009213693951 : Int) ≤ key := by unfold hP at hk; omega
 have q2 : ¬ 2305843009213693951 ≤ key := by unfold hP at hk; omega
 have q3 : ¬ (n : Int) < 0 := by omega
 have q4 : ¬ (1048576 : Int) < n := by omega
 have q5 : ¬ 1048576 < n := by omega
 have q6 : IntKind.i64.wrap ((T : Int) + n) = ((T + n : Nat) : Int) := by rw [w64 (by omega) (by omega)]; omega
 have q7 : ¬ (1099511627776 : Int) < (T : Int) + n := by omega
 have q8 : ¬ 1099511627776 < T + n := by omega
 have es : ∀ rs : List Rw, rs.length = 3 → (skO 3 C k a b rs (T + n)) = ⟨106, [.d (.int .i64 (3 : Nat)), .d (.int .i64 C), .d (.int .i64 k), .d (.int .i64 a), .d (.int .i64 b), .d (.sl 3 (rowsD k a b rs)), .d (.int .i64 (T + n : Nat))]⟩ := by intro rs h; simp [skO, skD, h]
 have eo : skO 3 C k a b [⟨A0, B0, l0⟩, ⟨A1, B1, l1⟩, ⟨A2, B2, l2⟩] T = ⟨106, [.d (.int .i64 (3 : Nat)), .d (.int .i64 C), .d (.int .i64 k), .d (.int .i64 a), .d (.int .i64 b), .d (.sl 3 [.int .u64 A0, .int .u64 B0, .ptr (arrD k a b l0) 0, .int .u64 A1, .int .u64 B1, .ptr (arrD k a b l1) 0, .int .u64 A2, .int .u64 B2, .ptr (arrD k a b l2) 0]), .d (.int .i64 T)]⟩ := by simp [skO, skD, rowsD, rowD]
 rw [eo] at hcl ⊢
 simp only [o_2b, arrO, arrV, arrB, vecO, vecB, hD, List.length_set, e0, e1, e2] at hcl o0 o1 o2 x0 x1 x2 ⊢
 generalize hl0 : l0.set (colOf C A0 B0 key) (Z0.y, Z0.t, Z0.f) = m0 at *
 generalize colOf C A0 B0 key = col0 at *
 generalize arrD k a b l0 = AD0 at *
 obtain ⟨E0, Y0, T0, F0, P0, G0⟩ := Z0
 simp only at x0 hU
 generalize hl1 : l1.set (colOf C A1 B1 key) (Z1.y, Z1.t, Z1.f) = m1 at *
 generalize colOf C A1 B1 key = col1 at *
 generalize arrD k a b l1 = AD1 at *
 obtain ⟨E1, Y1, T1, F1, P1, G1⟩ := Z1
 simp only at x1 hU
 generalize hl2 : l2.set (colOf C A2 B2 key) (Z2.y, Z2.t, Z2.f) = m2 at *
 generalize colOf C A2 B2 key = col2 at *
 generalize arrD k a b l2 = AD2 at *
 obtain ⟨E2, Y2, T2, F2, P2, G2⟩ := Z2
 simp only at x2 hU
 generalize nwP C (wdR k a b) = NW at *
 refine A10 (fs q1 (fs q2 (fs q3 (fs q4 (fs q5 (fs q6 (fs q7 q8))))))) ?_; try with_reducible exact tt
 refine CallS.g [0] (hcl) (R0 ?_); try with_reducible exact tt
 refine AW.rounds 4 ?_
 refine A01 o0 ?_; try with_reducible exact tt
 by_cases E00 : E0 = 0
 ·simp only [E00, if_true, u0] at x0
  generalize ((wordsP (wdR k a b) (encs k a b m0)).map fun x : Nat => D.int .u64 x) = WD0 at *
  refine CallS.g [4, 5, 6, 1] (x0) (R0 ?_); try with_reducible exact tt
  refine A01 o1 ?_; try with_reducible exact tt
  by_cases E10 : E1 = 0
  ·simp only [E10, if_true, u1] at x1
   generalize ((wordsP (wdR k a b) (encs k a b m1)).map fun x : Nat => D.int .u64 x) = WD1 at *
   refine CallS.g [7, 8, 9, 1] (x1) (R0 ?_); try with_reducible exact tt
   refine A01 o2 ?_; try with_reducible exact tt
   by_cases E20 : E2 = 0
   ·simp only [E20, if_true, u2] at x2
    generalize ((wordsP (wdR k a b) (encs k a b m2)).map fun x : Nat => D.int .u64 x) = WD2 at *
    refine CallS.g [10, 11, 12, 1] (x2) (R0 ?_); try with_reducible exact tt
    simp only [updC, if_true, E00, E10, E20] at hU
    subst hU
    simp only [if_true]
    rw [es _ rfl]
    simp only [rowsD, rowD, List.flatMap_cons, List.flatMap_nil, List.append_nil, List.cons_append, List.nil_append, D0, D1, D2]
    have t0 : WD0.take NW = WD0 := List.take_of_length_le (by omega)
    have t1 : WD1.take NW = WD1 := List.take_of_length_le (by omega)
    have t2 : WD2.take NW = WD2 := List.take_of_length_le (by omega)
    generalize wdR k a b = w at *
    refine AW.freeze 6 1 ⟨28, WD0.map V.d⟩ WD0 (by simp) rfl ?_
    simp [frzH, t0]
    refine AW.freeze 5 1 ⟨218, [.d (.sl NW WD0), .d (.int .i64 C), .d (.int .i64 w)]⟩ [.sl NW WD0, .int .i64 C, .int .i64 w] (by rfl) rfl ?_
    simp [frzH]
    refine AW.freeze 4 1 ⟨166, [.d (.ptr [.sl NW WD0, .int .i64 C, .int .i64 w] 0), .d (.int .i64 k), .d (.int .i64 a), .d (.int .i64 b)]⟩ [.ptr [.sl NW WD0, .int .i64 C, .int .i64 w] 0, .int .i64 k, .int .i64 a, .int .i64 b] (by rfl) rfl ?_
    simp [frzH]
    refine AW.freeze 9 1 ⟨28, WD1.map V.d⟩ WD1 (by simp) rfl ?_
    simp [frzH, t1]
    refine AW.freeze 8 1 ⟨218, [.d (.sl NW WD1), .d (.int .i64 C), .d (.int .i64 w)]⟩ [.sl NW WD1, .int .i64 C, .int .i64 w] (by rfl) rfl ?_
    simp [frzH]
    refine AW.freeze 7 1 ⟨166, [.d (.ptr [.sl NW WD1, .int .i64 C, .int .i64 w] 0), .d (.int .i64 k), .d (.int .i64 a), .d (.int .i64 b)]⟩ [.ptr [.sl NW WD1, .int .i64 C, .int .i64 w] 0, .int .i64 k, .int .i64 a, .int .i64 b] (by rfl) rfl ?_
    simp [frzH]
    refine AW.freeze 12 1 ⟨28, WD2.map V.d⟩ WD2 (by simp) rfl ?_
    simp [frzH, t2]
    refine AW.freeze 11 1 ⟨218, [.d (.sl NW WD2), .d (.int .i64 C), .d (.int .i64 w)]⟩ [.sl NW WD2, .int .i64 C, .int .i64 w] (by rfl) rfl ?_
    simp [frzH]
    refine AW.freeze 10 1 ⟨166, [.d (.ptr [.sl NW WD2, .int .i64 C, .int .i64 w] 0), .d (.int .i64 k), .d (.int .i64 a), .d (.int .i64 b)]⟩ [.ptr [.sl NW WD2, .int .i64 C, .int .i64 w] 0, .int .i64 k, .int .i64 a, .int .i64 b] (by rfl) rfl ?_
    simp [frzH]
    refine AW.freeze 3 3 ⟨111, [.int .u64 A0, .int .u64 B0, .ptr [.ptr [.sl NW WD0, .int .i64 C, .int .i64 w] 0, .int .i64 k, .int .i64 a, .int .i64 b] 0, .int .u64 A1, .int .u64 B1, .ptr [.ptr [.sl NW WD1, .int .i64 C, .int .i64 w] 0, .int .i64 k, .int .i64 a, .int .i64 b] 0, .int .u64 A2, .int .u64 B2, .ptr [.ptr [.sl NW WD2, .int .i64 C, .int .i64 w] 0, .int .i64 k, .int .i64 a, .int .i64 b] 0].map V.d⟩ [.int .u64 A0, .int .u64 B0, .ptr [.ptr [.sl NW WD0, .int .i64 C, .int .i64 w] 0, .int .i64 k, .int .i64 a, .int .i64 b] 0, .int .u64 A1, .int .u64 B1, .ptr [.ptr [.sl NW WD1, .int .i64 C, .int .i64 w] 0, .int .i64 k, .int .i64 a, .int .i64 b] 0, .int .u64 A2, .int .u64 B2, .ptr [.ptr [.sl NW WD2, .int .i64 C, .int .i64 w] 0, .int .i64 k, .int .i64 a, .int .i64 b] 0] (by rfl) rfl ?_
    simp [frzH]
    refine A10 q6 ?_; try with_reducible exact tt
   ·simp only [if_neg E20] at x2
    simp only [updC, if_true, if_neg E20, E00, E10] at hU
    refine CallS.g [10, 11, 12, 1] (x2) (R0 ?_); try with_reducible exact tt
    subst hU
    simp only [if_neg E20]
    refine A10 E20 ?_; try with_reducible exact tt
  ·simp only [if_neg E10] at x1
   simp only [updC, if_true, if_neg E10, E00] at hU
   refine CallS.g [7, 8, 9, 1] (x1) (R0 ?_); try with_reducible exact tt
   subst hU
   simp only [if_neg E10]
   refine A10 E10 ?_; try with_reducible exact tt
 ·simp only [if_neg E00] at x0
  simp only [updC, if_true, if_neg E00] at hU
  refine CallS.g [4, 5, 6, 1] (x0) (R0 ?_); try with_reducible exact tt
  subst hU
  simp only [if_neg E00]
  refine A10 E00 ?_; try with_reducible exact tt


theorem o_j6 {C k a b T : Nat} (hg : GoodR k a b) (g1 : 1 ≤ C) (g2 : C ≤ 64) (A0 B0 A1 B1 A2 B2 A3 B3 : Nat) (l0 l1 l2 l3 : List ST) (h0 : GoodRow C k a b ⟨A0, B0, l0⟩) (h1 : GoodRow C k a b ⟨A1, B1, l1⟩) (h2 : GoodRow C k a b ⟨A2, B2, l2⟩) (h3 : GoodRow C k a b ⟨A3, B3, l3⟩) :
  Eqn Tryz.prog o_o [.p 0 0] [skO 4 C k a b [⟨A0, B0, l0⟩, ⟨A1, B1, l1⟩, ⟨A2, B2, l2⟩, ⟨A3, B3, l3⟩] T] (.p 1 0) [skO 4 C k a b [⟨A0, B0, l0⟩, ⟨A1, B1, l1⟩, ⟨A2, B2, l2⟩, ⟨A3, B3, l3⟩] T, ⟨106, [.d (.int .i64 (4 : Nat)), .d (.int .i64 C), .d (.int .i64 k), .d (.int .i64 a), .d (.int .i64 b), .own 2 3 4, .d (.int .i64 T)]⟩, ⟨111, [.d (.int .u64 A0), .d (.int .u64 B0), .p 3 0, .d (.int .u64 A1), .d (.int .u64 B1), .p 6 0, .d (.int .u64 A2), .d (.int .u64 B2), .p 9 0, .d (.int .u64 A3), .d (.int .u64 B3), .p 12 0]⟩, arrO 4 k a b, arrV 5 k a b l0, arrB k a b l0, arrO 7 k a b, arrV 8 k a b l1, arrB k a b l1, arrO 10 k a b, arrV 11 k a b l2, arrB k a b l2, arrO 13 k a b, arrV 14 k a b l3, arrB k a b l3] := by
 obtain ⟨-, -, e0, -⟩ := h0
 simp only at e0
 obtain ⟨-, -, e1, -⟩ := h1
 simp only at e1
 obtain ⟨-, -, e2, -⟩ := h2
 simp only at e2
 obtain ⟨-, -, e3, -⟩ := h3
 simp only at e3
 refine Eqn.gen [0, 1, 2, 4, 5, 6, 8, 9, 10, 12, 13, 14, 16, 17, 18] o_10 (by simp) (by simp) (by rfl) (by decide) (by simp) (by simp [skO, skD, arrO, arrV, arrB, vecO, vecB, u64s]) ?_
 have hc := o_15 4 [.int .u64 A0, .int .u64 B0, .ptr (arrD k a b l0) 0, .int .u64 A1, .int .u64 B1, .ptr (arrD k a b l1) 0, .int .u64 A2, .int .u64 B2, .ptr (arrD k a b l2) 0, .int .u64 A3, .int .u64 B3, .ptr (arrD k a b l3) 0] (by omega) rfl (by omega)
 have d0 := o_7 l0 hg (by omega) (by omega)
 have d1 := o_7 l1 hg (by omega) (by omega)
 have d2 := o_7 l2 hg (by omega) (by omega)
 have d3 := o_7 l3 hg (by omega) (by omega)
 simp only [o_t, skO, skD, rowsD, rowD, List.flatMap_cons, List.flatMap_nil, List.append_nil, List.cons_append, List.nil_append, List.map_cons, List.map_nil, List.length_cons, List.length_nil, arrO, arrV, arrB, vecO, vecB, e0, e1, e2, e3] at hc d0 d1 d2 d3 ⊢
 generalize arrD k a b l0 = AD0 at *
 generalize wordsP (wdR k a b) (encs k a b l0) = WS0 at *
 generalize arrD k a b l1 = AD1 at *
 generalize wordsP (wdR k a b) (encs k a b l1) = WS1 at *
 generalize arrD k a b l2 = AD2 at *
 generalize wordsP (wdR k a b) (encs k a b l2) = WS2 at *
 generalize arrD k a b l3 = AD3 at *
 generalize wordsP (wdR k a b) (encs k a b l3) = WS3 at *
 generalize nwP C (wdR k a b) = NW at *
 generalize wdR k a b = w at *
 refine G0 ?_; try with_reducible exact tt
 refine CallS.g [] (hc) (R0 ?_); try with_reducible exact tt
 refine AW.rounds 5 ?_
 refine A00 ?_; try with_reducible exact tt
 refine CallS.g [] (d0) (R0 ?_); try with_reducible exact tt
 refine A00 ?_; try with_reducible exact tt
 refine CallS.g [] (d1) (R0 ?_); try with_reducible exact tt
 refine A00 ?_; try with_reducible exact tt
 refine CallS.g [] (d2) (R0 ?_); try with_reducible exact tt
 refine A00 ?_; try with_reducible exact tt
 refine CallS.g [] (d3) (R0 ?_); try with_reducible exact tt
 refine A00 ?_; try with_reducible exact tt

set_option maxHeartbeats 4000000 in
theorem o_v0 {C k a b T : Nat} (hg : GoodR k a b) (g1 : 1 ≤ C) (g2 : C ≤ 64) (A0 B0 A1 B1 A2 B2 A3 B3 : Nat) (l0 l1 l2 l3 : List ST) (h0 : GoodRow C k a b ⟨A0, B0, l0⟩) (h1 : GoodRow C k a b ⟨A1, B1, l1⟩) (h2 : GoodRow C k a b ⟨A2, B2, l2⟩) (h3 : GoodRow C k a b ⟨A3, B3, l3⟩) (cs : List Bool) (key n p : Nat) (d : Bool) (hk : key < hP) (hn : n ≤ 1048576) (hT : T + n ≤ 1099511627776) (hp : p ≤ cs.length) (hc : cs.length ≤ 4000000) (U : UR) (hU : U = updM cs C k a b key n [⟨A0, B0, l0⟩, ⟨A1, B1, l1⟩, ⟨A2, B2, l2⟩, ⟨A3, B3, l3⟩] p d) :
  Eqn Tryz.prog o_1p [.p 0 0, .p 1 0, .d (.int .u64 key), .d (.int .i64 n)] [skO 4 C k a b [⟨A0, B0, l0⟩, ⟨A1, B1, l1⟩, ⟨A2, B2, l2⟩, ⟨A3, B3, l3⟩] T, tapeO cs p d] (.d (.int .i64 U.e)) [if U.e = 0 then skO 4 C k a b U.rs (T + n) else skO 4 C k a b [⟨A0, B0, l0⟩, ⟨A1, B1, l1⟩, ⟨A2, B2, l2⟩, ⟨A3, B3, l3⟩] T, tapeO cs U.p U.d] := by
 have hcl := o_j6 (T := T) hg g1 g2 A0 B0 A1 B1 A2 B2 A3 B3 l0 l1 l2 l3 h0 h1 h2 h3
 obtain ⟨a0, b0, e0, w0⟩ := h0
 simp only at a0 b0 e0 w0
 have c0 : colOf C A0 B0 key < C := Nat.mod_lt _ (by omega)
 have o0 := o_l A0 B0 key C a0 b0 hk g1 g2
 rw [show hsum A0 B0 key % C = colOf C A0 B0 key from rfl] at o0
 obtain ⟨Z0, z0⟩ : ∃ Z, Z = updR cs C k a b key n ⟨A0, B0, l0⟩ p d := ⟨_, rfl⟩
 have p0 : Z0.p ≤ cs.length := by rw [z0]; exact (o_k hg (o_5 w0 (show colOf C A0 B0 key < l0.length by omega)) hp hc).1
 have x0 := o_q cs l0 (colOf C A0 B0 key) n p d hg w0 (by omega) (by omega) hn hp hc Z0 z0
 obtain ⟨a1, b1, e1, w1⟩ := h1
 simp only at a1 b1 e1 w1
 have c1 : colOf C A1 B1 key < C := Nat.mod_lt _ (by omega)
 have o1 := o_l A1 B1 key C a1 b1 hk g1 g2
 rw [show hsum A1 B1 key % C = colOf C A1 B1 key from rfl] at o1
 obtain ⟨Z1, z1⟩ : ∃ Z, Z = updR cs C k a b key n ⟨A1, B1, l1⟩ Z0.p Z0.d := ⟨_, rfl⟩
 have p1 : Z1.p ≤ cs.length := by rw [z1]; exact (o_k hg (o_5 w1 (show colOf C A1 B1 key < l1.length by omega)) p0 hc).1
 have x1 := o_q cs l1 (colOf C A1 B1 key) n Z0.p Z0.d hg w1 (by omega) (by omega) hn p0 hc Z1 z1
 obtain ⟨a2, b2, e2, w2⟩ := h2
 simp only at a2 b2 e2 w2
 have c2 : colOf C A2 B2 key < C := Nat.mod_lt _ (by omega)
 have o2 := o_l A2 B2 key C a2 b2 hk g1 g2
 rw [show hsum A2 B2 key % C = colOf C A2 B2 key from rfl] at o2
 obtain ⟨Z2, z2⟩ : ∃ Z, Z = updR cs C k a b key n ⟨A2, B2, l2⟩ Z1.p Z1.d := ⟨_, rfl⟩
 have p2 : Z2.p ≤ cs.length := by rw [z2]; exact (o_k hg (o_5 w2 (show colOf C A2 B2 key < l2.length by omega)) p1 hc).1
 have x2 := o_q cs l2 (colOf C A2 B2 key) n Z1.p Z1.d hg w2 (by omega) (by omega) hn p1 hc Z2 z2
 obtain ⟨a3, b3, e3, w3⟩ := h3
 simp only at a3 b3 e3 w3
 have c3 : colOf C A3 B3 key < C := Nat.mod_lt _ (by omega)
 have o3 := o_l A3 B3 key C a3 b3 hk g1 g2
 rw [show hsum A3 B3 key % C = colOf C A3 B3 key from rfl] at o3
 obtain ⟨Z3, z3⟩ : ∃ Z, Z = updR cs C k a b key n ⟨A3, B3, l3⟩ Z2.p Z2.d := ⟨_, rfl⟩
 have p3 : Z3.p ≤ cs.length := by rw [z3]; exact (o_k hg (o_5 w3 (show colOf C A3 B3 key < l3.length by omega)) p2 hc).1
 have x3 := o_q cs l3 (colOf C A3 B3 key) n Z2.p Z2.d hg w3 (by omega) (by omega) hn p2 hc Z3 z3
 simp only [updM] at hU
 rw [← z0] at hU
 rw [← z1] at hU
 rw [← z2] at hU
 rw [← z3] at hU
 clear z0 p0 z1 p1 z2 p2 z3 p3
 have D0 : arrD k a b (l0.set (colOf C A0 B0 key) (Z0.y, Z0.t, Z0.f)) = [.ptr [.sl (nwP C (wdR k a b)) ((wordsP (wdR k a b) (encs k a b (l0.set (colOf C A0 B0 key) (Z0.y, Z0.t, Z0.f)))).map fun x : Nat => D.int .u64 x), .int .i64 C, .int .i64 (wdR k a b)] 0, .int .i64 k, .int .i64 a, .int .i64 b] := by simp [arrD, vecD, e0]
 have L0 : ((wordsP (wdR k a b) (encs k a b (l0.set (colOf C A0 B0 key) (Z0.y, Z0.t, Z0.f)))).map fun x : Nat => D.int .u64 x).length = nwP C (wdR k a b) := by simp [e0]
 have u0 : u64s (wordsP (wdR k a b) (encs k a b (l0.set (colOf C A0 B0 key) (Z0.y, Z0.t, Z0.f)))) = ((wordsP (wdR k a b) (encs k a b (l0.set (colOf C A0 B0 key) (Z0.y, Z0.t, Z0.f)))).map fun x : Nat => D.int .u64 x).map V.d := by simp [u64s]
 have D1 : arrD k a b (l1.set (colOf C A1 B1 key) (Z1.y, Z1.t, Z1.f)) = [.ptr [.sl (nwP C (wdR k a b)) ((wordsP (wdR k a b) (encs k a b (l1.set (colOf C A1 B1 key) (Z1.y, Z1.t, Z1.f)))).map fun x : Nat => D.int .u64 x), .int .i64 C, .int .i64 (wdR k a b)] 0, .int .i64 k, .int .i64 a, .int .i64 b] := by simp [arrD, vecD, e1]
 have L1 : ((wordsP (wdR k a b) (encs k a b (l1.set (colOf C A1 B1 key) (Z1.y, Z1.t, Z1.f)))).map fun x : Nat => D.int .u64 x).length = nwP C (wdR k a b) := by simp [e1]
 have u1 : u64s (wordsP (wdR k a b) (encs k a b (l1.set (colOf C A1 B1 key) (Z1.y, Z1.t, Z1.f)))) = ((wordsP (wdR k a b) (encs k a b (l1.set (colOf C A1 B1 key) (Z1.y, Z1.t, Z1.f)))).map fun x : Nat => D.int .u64 x).map V.d := by simp [u64s]
 have D2 : arrD k a b (l2.set (colOf C A2 B2 key) (Z2.y, Z2.t, Z2.f)) = [.ptr [.sl (nwP C (wdR k a b)) ((wordsP (wdR k a b) (encs k a b (l2.set (colOf C A2 B2 key) (Z2.y, Z2.t, Z2.f)))).map fun x : Nat => D.int .u64 x), .int .i64 C, .int .i64 (wdR k a b)] 0, .int .i64 k, .int .i64 a, .int .i64 b] := by simp [arrD, vecD, e2]
 have L2 : ((wordsP (wdR k a b) (encs k a b (l2.set (colOf C A2 B2 key) (Z2.y, Z2.t, Z2.f)))).map fun x : Nat => D.int .u64 x).length = nwP C (wdR k a b) := by simp [e2]
 have u2 : u64s (wordsP (wdR k a b) (encs k a b (l2.set (colOf C A2 B2 key) (Z2.y, Z2.t, Z2.f)))) = ((wordsP (wdR k a b) (encs k a b (l2.set (colOf C A2 B2 key) (Z2.y, Z2.t, Z2.f)))).map fun x : Nat => D.int .u64 x).map V.d := by simp [u64s]
 have D3 : arrD k a b (l3.set (colOf C A3 B3 key) (Z3.y, Z3.t, Z3.f)) = [.ptr [.sl (nwP C (wdR k a b)) ((wordsP (wdR k a b) (encs k a b (l3.set (colOf C A3 B3 key) (Z3.y, Z3.t, Z3.f)))).map fun x : Nat => D.int .u64 x), .int .i64 C, .int .i64 (wdR k a b)] 0, .int .i64 k, .int .i64 a, .int .i64 b] := by simp [arrD, vecD, e3]
 have L3 : ((wordsP (wdR k a b) (encs k a b (l3.set (colOf C A3 B3 key) (Z3.y, Z3.t, Z3.f)))).map fun x : Nat => D.int .u64 x).length = nwP C (wdR k a b) := by simp [e3]
 have u3 : u64s (wordsP (wdR k a b) (encs k a b (l3.set (colOf C A3 B3 key) (Z3.y, Z3.t, Z3.f)))) = ((wordsP (wdR k a b) (encs k a b (l3.set (colOf C A3 B3 key) (Z3.y, Z3.t, Z3.f)))).map fun x : Nat => D.int .u64 x).map V.d := by simp [u64s]
 refine Eqn.gen [0, 1] o_3b (by simp) (by simp) (by rfl) (by decide) (by simp) (by intro ob hob; simp at hob; rcases hob with rfl | rfl; (split <;> simp [skO, skD]); simp [tapeO]) ?_
 have q1 : ¬ (2305843009213693951 : Int) ≤ key := by unfold hP at hk; omega
 have q2 : ¬ 2305843009213693951 ≤ key := by unfold hP at hk; omega
 have q3 : ¬ (n : Int) < 0 := by omega
 have q4 : ¬ (1048576 : Int) < n := by omega
 have q5 : ¬ 1048576 < n := by omega
 have q6 : IntKind.i64.wrap ((T : Int) + n) = ((T + n : Nat) : Int) := by rw [w64 (by omega) (by omega)]; omega
 have q7 : ¬ (1099511627776 : Int) < (T : Int) + n := by omega
 have q8 : ¬ 1099511627776 < T + n := by omega
 have es : ∀ rs : List Rw, rs.length = 4 → (skO 4 C k a b rs (T + n)) = ⟨106, [.d (.int .i64 (4 : Nat)), .d (.int .i64 C), .d (.int .i64 k), .d (.int .i64 a), .d (.int .i64 b), .d (.sl 4 (rowsD k a b rs)), .d (.int .i64 (T + n : Nat))]⟩ := by intro rs h; simp [skO, skD, h]
 have eo : skO 4 C k a b [⟨A0, B0, l0⟩, ⟨A1, B1, l1⟩, ⟨A2, B2, l2⟩, ⟨A3, B3, l3⟩] T = ⟨106, [.d (.int .i64 (4 : Nat)), .d (.int .i64 C), .d (.int .i64 k), .d (.int .i64 a), .d (.int .i64 b), .d (.sl 4 [.int .u64 A0, .int .u64 B0, .ptr (arrD k a b l0) 0, .int .u64 A1, .int .u64 B1, .ptr (arrD k a b l1) 0, .int .u64 A2, .int .u64 B2, .ptr (arrD k a b l2) 0, .int .u64 A3, .int .u64 B3, .ptr (arrD k a b l3) 0]), .d (.int .i64 T)]⟩ := by simp [skO, skD, rowsD, rowD]
 rw [eo] at hcl ⊢
 simp only [o_2b, arrO, arrV, arrB, vecO, vecB, hD, List.length_set, e0, e1, e2, e3] at hcl o0 o1 o2 o3 x0 x1 x2 x3 ⊢
 generalize hl0 : l0.set (colOf C A0 B0 key) (Z0.y, Z0.t, Z0.f) = m0 at *
 generalize colOf C A0 B0 key = col0 at *
 generalize arrD k a b l0 = AD0 at *
 obtain ⟨E0, Y0, T0, F0, P0, G0⟩ := Z0
 simp only at x0 hU
 generalize hl1 : l1.set (colOf C A1 B1 key) (Z1.y, Z1.t, Z1.f) = m1 at *
 generalize colOf C A1 B1 key = col1 at *
 generalize arrD k a b l1 = AD1 at *
 obtain ⟨E1, Y1, T1, F1, P1, G1⟩ := Z1
 simp only at x1 hU
 generalize hl2 : l2.set (colOf C A2 B2 key) (Z2.y, Z2.t, Z2.f) = m2 at *
 generalize colOf C A2 B2 key = col2 at *
 generalize arrD k a b l2 = AD2 at *
 obtain ⟨E2, Y2, T2, F2, P2, G2⟩ := Z2
 simp only at x2 hU
 generalize hl3 : l3.set (colOf C A3 B3 key) (Z3.y, Z3.t, Z3.f) = m3 at *
 generalize colOf C A3 B3 key = col3 at *
 generalize arrD k a b l3 = AD3 at *
 obtain ⟨E3, Y3, T3, F3, P3, G3⟩ := Z3
 simp only at x3 hU
 generalize nwP C (wdR k a b) = NW at *
 refine A10 (fs q1 (fs q2 (fs q3 (fs q4 (fs q5 (fs q6 (fs q7 q8))))))) ?_; try with_reducible exact tt
 refine CallS.g [0] (hcl) (R0 ?_); try with_reducible exact tt
 refine AW.rounds 5 ?_
 refine A01 o0 ?_; try with_reducible exact tt
 by_cases E00 : E0 = 0
 ·simp only [E00, if_true, u0] at x0
  generalize ((wordsP (wdR k a b) (encs k a b m0)).map fun x : Nat => D.int .u64 x) = WD0 at *
  refine CallS.g [4, 5, 6, 1] (x0) (R0 ?_); try with_reducible exact tt
  refine A01 o1 ?_; try with_reducible exact tt
  by_cases E10 : E1 = 0
  ·simp only [E10, if_true, u1] at x1
   generalize ((wordsP (wdR k a b) (encs k a b m1)).map fun x : Nat => D.int .u64 x) = WD1 at *
   refine CallS.g [7, 8, 9, 1] (x1) (R0 ?_); try with_reducible exact tt
   refine A01 o2 ?_; try with_reducible exact tt
   by_cases E20 : E2 = 0
   ·simp only [E20, if_true, u2] at x2
    generalize ((wordsP (wdR k a b) (encs k a b m2)).map fun x : Nat => D.int .u64 x) = WD2 at *
    refine CallS.g [10, 11, 12, 1] (x2) (R0 ?_); try with_reducible exact tt
    refine A01 o3 ?_; try with_reducible exact tt
    by_cases E30 : E3 = 0
    ·simp only [E30, if_true, u3] at x3
     generalize ((wordsP (wdR k a b) (encs k a b m3)).map fun x : Nat => D.int .u64 x) = WD3 at *
     refine CallS.g [13, 14, 15, 1] (x3) (R0 ?_); try with_reducible exact tt
     simp only [updC, if_true, E00, E10, E20, E30] at hU
     subst hU
     simp only [if_true]
     rw [es _ rfl]
     simp only [rowsD, rowD, List.flatMap_cons, List.flatMap_nil, List.append_nil, List.cons_append, List.nil_append, D0, D1, D2, D3]
     have t0 : WD0.take NW = WD0 := List.take_of_length_le (by omega)
     have t1 : WD1.take NW = WD1 := List.take_of_length_le (by omega)
     have t2 : WD2.take NW = WD2 := List.take_of_length_le (by omega)
     have t3 : WD3.take NW = WD3 := List.take_of_length_le (by omega)
     generalize wdR k a b = w at *
     refine AW.freeze 6 1 ⟨28, WD0.map V.d⟩ WD0 (by simp) rfl ?_
     simp [frzH, t0]
     refine AW.freeze 5 1 ⟨218, [.d (.sl NW WD0), .d (.int .i64 C), .d (.int .i64 w)]⟩ [.sl NW WD0, .int .i64 C, .int .i64 w] (by rfl) rfl ?_
     simp [frzH]
     refine AW.freeze 4 1 ⟨166, [.d (.ptr [.sl NW WD0, .int .i64 C, .int .i64 w] 0), .d (.int .i64 k), .d (.int .i64 a), .d (.int .i64 b)]⟩ [.ptr [.sl NW WD0, .int .i64 C, .int .i64 w] 0, .int .i64 k, .int .i64 a, .int .i64 b] (by rfl) rfl ?_
     simp [frzH]
     refine AW.freeze 9 1 ⟨28, WD1.map V.d⟩ WD1 (by simp) rfl ?_
     simp [frzH, t1]
     refine AW.freeze 8 1 ⟨218, [.d (.sl NW WD1), .d (.int .i64 C), .d (.int .i64 w)]⟩ [.sl NW WD1, .int .i64 C, .int .i64 w] (by rfl) rfl ?_
     simp [frzH]
     refine AW.freeze 7 1 ⟨166, [.d (.ptr [.sl NW WD1, .int .i64 C, .int .i64 w] 0), .d (.int .i64 k), .d (.int .i64 a), .d (.int .i64 b)]⟩ [.ptr [.sl NW WD1, .int .i64 C, .int .i64 w] 0, .int .i64 k, .int .i64 a, .int .i64 b] (by rfl) rfl ?_
     simp [frzH]
     refine AW.freeze 12 1 ⟨28, WD2.map V.d⟩ WD2 (by simp) rfl ?_
     simp [frzH, t2]
     refine AW.freeze 11 1 ⟨218, [.d (.sl NW WD2), .d (.int .i64 C), .d (.int .i64 w)]⟩ [.sl NW WD2, .int .i64 C, .int .i64 w] (by rfl) rfl ?_
     simp [frzH]
     refine AW.freeze 10 1 ⟨166, [.d (.ptr [.sl NW WD2, .int .i64 C, .int .i64 w] 0), .d (.int .i64 k), .d (.int .i64 a), .d (.int .i64 b)]⟩ [.ptr [.sl NW WD2, .int .i64 C, .int .i64 w] 0, .int .i64 k, .int .i64 a, .int .i64 b] (by rfl) rfl ?_
     simp [frzH]
     refine AW.freeze 15 1 ⟨28, WD3.map V.d⟩ WD3 (by simp) rfl ?_
     simp [frzH, t3]
     refine AW.freeze 14 1 ⟨218, [.d (.sl NW WD3), .d (.int .i64 C), .d (.int .i64 w)]⟩ [.sl NW WD3, .int .i64 C, .int .i64 w] (by rfl) rfl ?_
     simp [frzH]
     refine AW.freeze 13 1 ⟨166, [.d (.ptr [.sl NW WD3, .int .i64 C, .int .i64 w] 0), .d (.int .i64 k), .d (.int .i64 a), .d (.int .i64 b)]⟩ [.ptr [.sl NW WD3, .int .i64 C, .int .i64 w] 0, .int .i64 k, .int .i64 a, .int .i64 b] (by rfl) rfl ?_
     simp [frzH]
     refine AW.freeze 3 3 ⟨111, [.int .u64 A0, .int .u64 B0, .ptr [.ptr [.sl NW WD0, .int .i64 C, .int .i64 w] 0, .int .i64 k, .int .i64 a, .int .i64 b] 0, .int .u64 A1, .int .u64 B1, .ptr [.ptr [.sl NW WD1, .int .i64 C, .int .i64 w] 0, .int .i64 k, .int .i64 a, .int .i64 b] 0, .int .u64 A2, .int .u64 B2, .ptr [.ptr [.sl NW WD2, .int .i64 C, .int .i64 w] 0, .int .i64 k, .int .i64 a, .int .i64 b] 0, .int .u64 A3, .int .u64 B3, .ptr [.ptr [.sl NW WD3, .int .i64 C, .int .i64 w] 0, .int .i64 k, .int .i64 a, .int .i64 b] 0].map V.d⟩ [.int .u64 A0, .int .u64 B0, .ptr [.ptr [.sl NW WD0, .int .i64 C, .int .i64 w] 0, .int .i64 k, .int .i64 a, .int .i64 b] 0, .int .u64 A1, .int .u64 B1, .ptr [.ptr [.sl NW WD1, .int .i64 C, .int .i64 w] 0, .int .i64 k, .int .i64 a, .int .i64 b] 0, .int .u64 A2, .int .u64 B2, .ptr [.ptr [.sl NW WD2, .int .i64 C, .int .i64 w] 0, .int .i64 k, .int .i64 a, .int .i64 b] 0, .int .u64 A3, .int .u64 B3, .ptr [.ptr [.sl NW WD3, .int .i64 C, .int .i64 w] 0, .int .i64 k, .int .i64 a, .int .i64 b] 0] (by rfl) rfl ?_
     simp [frzH]
     refine A10 q6 ?_; try with_reducible exact tt
    ·simp only [if_neg E30] at x3
     simp only [updC, if_true, if_neg E30, E00, E10, E20] at hU
     refine CallS.g [13, 14, 15, 1] (x3) (R0 ?_); try with_reducible exact tt
     subst hU
     simp only [if_neg E30]
     refine A10 E30 ?_; try with_reducible exact tt
   ·simp only [if_neg E20] at x2
    simp only [updC, if_true, if_neg E20, E00, E10] at hU
    refine CallS.g [10, 11, 12, 1] (x2) (R0 ?_); try with_reducible exact tt
    subst hU
    simp only [if_neg E20]
    refine A10 E20 ?_; try with_reducible exact tt
  ·simp only [if_neg E10] at x1
   simp only [updC, if_true, if_neg E10, E00] at hU
   refine CallS.g [7, 8, 9, 1] (x1) (R0 ?_); try with_reducible exact tt
   subst hU
   simp only [if_neg E10]
   refine A10 E10 ?_; try with_reducible exact tt
 ·simp only [if_neg E00] at x0
  simp only [updC, if_true, if_neg E00] at hU
  refine CallS.g [4, 5, 6, 1] (x0) (R0 ?_); try with_reducible exact tt
  subst hU
  simp only [if_neg E00]
  refine A10 E00 ?_; try with_reducible exact tt
end
end Go.Proofs.YtijbgbpjionfjaaGreatDoor.Am
namespace Go.Proofs.YtijbgbpjionfjaaGreatDoor.Am
section
open Go.RowKit
/-- an update, of one to four rows -/
theorem o_v1 {R C k a b T : Nat} (hg : GoodR k a b) (g1 : 1 ≤ C) (g2 : C ≤ 64) (rs : List Rw) (hR : rs.length = R) (h1 : 1 ≤ R) (h4 : R ≤ 4) (hr : ∀ r ∈ rs, GoodRow C k a b r) (cs : List Bool) (key n p : Nat) (d : Bool) (hk : key < hP) (hn : n ≤ 1048576) (hT : T + n ≤ 1099511627776) (hp : p ≤ cs.length) (hc : cs.length ≤ 4000000) (U : UR) (hU : U = updM cs C k a b key n rs p d) :
  Eqn Tryz.prog o_1p [.p 0 0, .p 1 0, .d (.int .u64 key), .d (.int .i64 n)] [skO R C k a b rs T, tapeO cs p d] (.d (.int .i64 U.e)) [if U.e = 0 then skO R C k a b U.rs (T + n) else skO R C k a b rs T, tapeO cs U.p U.d] := by
 subst hR
 match rs, h1, h4, hr, hU with
 | [⟨A0, B0, l0⟩], _, _, hr, hU =>
  have h0 := hr _ (List.mem_cons_self)
  have h := o_8g (T := T) hg g1 g2 A0 B0 l0 h0 cs key n p d hk hn hT hp hc _ rfl
  obtain ⟨Z, hZ⟩ : ∃ Z, Z = updR cs C k a b key n ⟨A0, B0, l0⟩ p d := ⟨_, rfl⟩
  rw [show addRM cs k a b n (l0.getD (colOf C A0 B0 key) (0, 0, false)).1 (l0.getD (colOf C A0 B0 key) (0, 0, false)).2.1 (l0.getD (colOf C A0 B0 key) (0, 0, false)).2.2 p d = Z from hZ.symm] at h
  simp only [updM] at hU
  rw [← hZ] at hU
  subst hU
  unfold updC
  by_cases he : Z.e = 0
  ·rw [if_pos he] at h
   simp only [if_pos he, if_true]
   rw [he] at h
   exact h
  ·rw [if_neg he] at h
   simp only [if_neg he]
   exact h
 | [⟨A0, B0, l0⟩, ⟨A1, B1, l1⟩], _, _, hr, hU => exact o_uy hg g1 g2 A0 B0 A1 B1 l0 l1 (hr _ (by simp)) (hr _ (by simp)) cs key n p d hk hn hT hp hc U hU
 | [⟨A0, B0, l0⟩, ⟨A1, B1, l1⟩, ⟨A2, B2, l2⟩], _, _, hr, hU => exact o_uz hg g1 g2 A0 B0 A1 B1 A2 B2 l0 l1 l2 (hr _ (by simp)) (hr _ (by simp)) (hr _ (by simp)) cs key n p d hk hn hT hp hc U hU
 | [⟨A0, B0, l0⟩, ⟨A1, B1, l1⟩, ⟨A2, B2, l2⟩, ⟨A3, B3, l3⟩], _, _, hr, hU => exact o_v0 hg g1 g2 A0 B0 A1 B1 A2 B2 A3 B3 l0 l1 l2 l3 (hr _ (by simp)) (hr _ (by simp)) (hr _ (by simp)) (hr _ (by simp)) cs key n p d hk hn hT hp hc U hU

theorem o_4u {R C k a b T : Nat} (rs : List Rw) : Eqn Tryz.prog o_al [.p 0 0] [skO R C k a b rs T] (.d (.int .i64 T)) [skO R C k a b rs T] := by
 refine Eqn.gen [0] o_lk (by simp) (by simp) (by rfl) (by decide) (by simp) (by simp [skO, skD]) ?_
 simp only [o_am, skO, skD, List.map_cons, List.map_nil]
 refine A00 ?_; try with_reducible exact tt

theorem o_v2 (key : Nat) (n : Int) (h : key < 18446744073709551616) : Eqn Tryz.prog o_af [.d (.agg [.int .u64 key, .int .i64 n])] [] (.d (.int .u64 (key % hP : Nat))) [] := by
 refine Eqn.pure o_lh Plain.ok ?_
 have e : (key : Int).tmod 2305843009213693951 = ((key % hP : Nat) : Int) := by rw [Int.tmod_eq_emod_of_nonneg (by omega)]; unfold hP; omega
 generalize key % hP = q at *
 simp only [o_ag]
 refine A10 e ?_; try with_reducible exact tt
end
end Go.Proofs.YtijbgbpjionfjaaGreatDoor.Am
namespace Go.Proofs.YtijbgbpjionfjaaGreatDoor.Am
section
open Go.RowKit
end
end Go.Proofs.YtijbgbpjionfjaaGreatDoor.Am
namespace Go.Proofs.YtijbgbpjionfjaaGreatDoor.Am
section
/-- the ways out of a block's loop -/
def exitQ {β : Type} (id N : Nat) (T1 : β → List V) (H1 : β → List (Option Ob)) (R2 : β → Prop) (Q : Exit → List V → List (Option Ob) → Prop) : Exit → List V → List (Option Ob) → Prop
 | .exit j, T, H => if j = id then ∃ b, R2 b ∧ wk N T (T1 b) ∧ wkH N H (H1 b) else Q (.exit j) T H
 | .normal, _, _ => False
 | e, T, H => Q e T H
attribute [simp] exitQ
end
end Go.Proofs.YtijbgbpjionfjaaGreatDoor.Am
namespace Go.Proofs.YtijbgbpjionfjaaGreatDoor.Am
section
open Go.RowKit
/-- registers beside the array, in cells -/
def aloneV (l : List ST) : List V := l.flatMap fun s => [.d (.int .i64 s.1), .d (.int .i64 s.2.1), .d (.bool s.2.2)]
@[simp] theorem o_wf (n : Nat) (l : List ST) : V.lowl n (aloneV l) = true := by induction l <;> simp_all [aloneV]

/-- pairs of numbers, as data -/
def actsL (l : List (Int × Int)) : List D := l.flatMap fun a => [.int .i64 a.1, .int .i64 a.2]
end
end Go.Proofs.YtijbgbpjionfjaaGreatDoor.Am
namespace Go.Proofs.YtijbgbpjionfjaaGreatDoor.Am
section
open Go.RowKit
theorem o_4v (w : Nat) (xs : List Nat) : Eqn Tryz.prog o_em [.ia (vecD w xs) 0] [] (.d (.int .i64 xs.length)) [] := by
 refine Eqn.pure o_nn Plain.ok ?_
 simp only [o_en, vecD]
 refine G0 ?_; try with_reducible exact tt

/-- states as the cells of a slice -/
def stL (l : List ST) : List D := l.flatMap fun s => [.int .i64 s.1, .int .i64 s.2.1, .bool s.2.2]
end
end Go.Proofs.YtijbgbpjionfjaaGreatDoor.Am
namespace Go.Proofs.YtijbgbpjionfjaaGreatDoor.Am
section
open Go.RowKit
/-- states of any numbers, as they come in -/
abbrev RawS := Int × Int × Bool
def rawL (l : List RawS) : List D := l.flatMap fun s => [.int .i64 s.1, .int .i64 s.2.1, .bool s.2.2]
abbrev stV (l : List ST) : List V := (stL l).map .d
@[simp] theorem o_wg (n : Nat) (l : List ST) : V.lowl n (stV l) = true := o_9y n _
@[simp] theorem o_wh (θ : Nat → Nat) (l : List ST) : V.rens θ (stV l) = stV l := o_9x θ _

/-- the array filled so far -/
def upTo (l : List ST) (i : Nat) : List ST := l.take i ++ List.replicate (l.length - i) (0, 0, false)
end
end Go.Proofs.YtijbgbpjionfjaaGreatDoor.Am
namespace Go.Proofs.YtijbgbpjionfjaaGreatDoor.Am
section
open Go.RowKit
/-- the bits of a vector's numbers -/
def packBits (w : Nat) (xs : List Nat) : List Bool := xs.flatMap fun x => bitsW x w
end
end Go.Proofs.YtijbgbpjionfjaaGreatDoor.Am
namespace Go.Proofs.YtijbgbpjionfjaaGreatDoor.Am
section
open Go.RowKit
/-- a merge of registers, round by round -/
structure MR where
 e : Int
 l : List ST
 p : Nat
 d : Bool
def mergeUp (cs : List Bool) (k a b : Nat) (l m : List ST) (p : Nat) (d : Bool) : Nat → MR
 | 0 => ⟨0, [], p, d⟩
 | i + 1 =>
  let S := mergeUp cs k a b l m p d i
  if S.e = 0 then
   let R := mergeRM cs k a b (l.getD i (0, 0, false)).1 (l.getD i (0, 0, false)).2.1 (l.getD i (0, 0, false)).2.2 (m.getD i (0, 0, false)).1 (m.getD i (0, 0, false)).2.1 (m.getD i (0, 0, false)).2.2 S.p S.d
   if R.e = 0 then ⟨0, S.l ++ [(R.y, R.t, R.f)], R.p, R.d⟩ else ⟨R.e, S.l, R.p, R.d⟩
  else S
theorem o_2x {cs : List Bool} {k a b : Nat} {l m : List ST} {p : Nat} {d : Bool} {i : Nat} (h : (mergeUp cs k a b l m p d i).e ≠ 0) : ∀ j, mergeUp cs k a b l m p d (i + j) = mergeUp cs k a b l m p d i
 | 0 => rfl
 | j + 1 => by
  rw [← Nat.add_assoc, mergeUp, o_2x h j]
  simp only [if_neg h]
theorem o_8 {cs : List Bool} {k a b : Nat} {l m : List ST} {p : Nat} {d : Bool} (hg : GoodR k a b) (hl : wells k a b l) (hm : wells k a b m) (hp : p ≤ cs.length) : ∀ i, i ≤ l.length → i ≤ m.length → (mergeUp cs k a b l m p d i).p ≤ cs.length ∧ wells k a b (mergeUp cs k a b l m p d i).l ∧ ((mergeUp cs k a b l m p d i).e = 0 → (mergeUp cs k a b l m p d i).l.length = i)
 | 0, _, _ => ⟨hp, fun s hs => by simp [mergeUp] at hs, fun _ => rfl⟩
 | i + 1, hi, hj => by
  obtain ⟨h1, h2, h3⟩ := o_8 (d := d) hg hl hm hp i (by omega) (by omega)
  rw [mergeUp]
  generalize mergeUp cs k a b l m p d i = S at *
  simp only
  by_cases he : S.e = 0
  ·rw [if_pos he]
   have hw := o_7q (cs := cs) (p := S.p) (d := S.d) hg (o_5 hl (i := i) (by omega)) (o_5 hm (i := i) (by omega)) h1
   generalize mergeRM cs k a b (l.getD i (0, 0, false)).1 (l.getD i (0, 0, false)).2.1 (l.getD i (0, 0, false)).2.2 (m.getD i (0, 0, false)).1 (m.getD i (0, 0, false)).2.1 (m.getD i (0, 0, false)).2.2 S.p S.d = R at *
   by_cases hr : R.e = 0
   ·rw [if_pos hr]
    refine ⟨hw.1, fun s hs => ?_, fun _ => by simp [h3 he]⟩
    rcases List.mem_append.1 hs with hs | hs
    ·exact h2 s hs
    ·rw [List.mem_singleton] at hs
     rw [hs]; exact hw.2 hr
   ·rw [if_neg hr]
    exact ⟨hw.1, h2, fun h => absurd h hr⟩
  ·rw [if_neg he]
   exact ⟨h1, h2, fun h => absurd h he⟩

/-- the twin, so far -/
def twin (l acc : List ST) : List ST := acc ++ l.drop acc.length
theorem o_16 {l acc : List ST} (h : acc.length ≤ l.length) : (twin l acc).length = l.length := by simp [twin]; omega
theorem o_j7 (l : List ST) : twin l [] = l := by simp [twin]
theorem o_v3 {l acc : List ST} (h : acc.length = l.length) : twin l acc = acc := by simp [twin, h]
theorem o_j8 {l acc : List ST} (h : acc.length < l.length) (s : ST) : (twin l acc).set acc.length s = twin l (acc ++ [s]) := by
 simp only [twin]
 rw [List.set_append_right _ _ (Nat.le_refl _), Nat.sub_self, List.drop_eq_getElem_cons h, List.set_cons_zero, List.length_append, List.length_singleton, List.append_assoc]
 rfl
theorem o_j9 {k a b : Nat} {l acc : List ST} (hl : wells k a b l) (ha : wells k a b acc) : wells k a b (twin l acc) := by
 intro s hs
 rcases List.mem_append.1 hs with hs | hs
 ·exact ha s hs
 ·exact hl s (List.mem_of_mem_drop hs)

/-- a round of a merge -/
theorem o_8i {cs : List Bool} {k a b : Nat} {l m : List ST} {p : Nat} {d : Bool} {i : Nat} {T : MR} (hT : mergeUp cs k a b l m p d i = T) (he : T.e = 0) {s r : ST} (hs : l.getD i (0, 0, false) = s) (hr : m.getD i (0, 0, false) = r) {R : TR} (hR : R = mergeRM cs k a b s.1 s.2.1 s.2.2 r.1 r.2.1 r.2.2 T.p T.d) :
  mergeUp cs k a b l m p d (i + 1) = if R.e = 0 then ⟨0, T.l ++ [(R.y, R.t, R.f)], R.p, R.d⟩ else ⟨R.e, T.l, R.p, R.d⟩ := by
 rw [mergeUp, hT, hs, hr, hR]
 simp only [if_pos he]
end
end Go.Proofs.YtijbgbpjionfjaaGreatDoor.Am
namespace Go.Proofs.YtijbgbpjionfjaaGreatDoor.Am
section
open Go.RowKit
theorem o_v4 {k a b : Nat} (l m : List ST) (hg : GoodR k a b) (h1 : wells k a b l) (h2 : wells k a b m) (hl : 1 ≤ l.length) (hln : l.length ≤ 256) (hm : 1 ≤ m.length) (hmn : m.length ≤ 256) :
  Eqn Tryz.prog o_cc [.d (.ptr (arrD k a b l) 0), .d (.ptr (arrD k a b m) 0)] [] (.d (.bool (decide (l = m)))) [] := by
 refine Eqn.pure o_mh Plain.ok ?_
 have hs := o_ty (wdR k a b) (wdR k a b) (encs k a b l) (encs k a b m) (by simpa using (o_4n hg hl hln).2) (by simpa using (o_4n hg hm hmn).2)
 have he : (decide ((encs k a b l).length = (encs k a b m).length ∧ wdR k a b = wdR k a b ∧ wordsP (wdR k a b) (encs k a b l) = wordsP (wdR k a b) (encs k a b m))) = decide (l = m) := by
  rw [decide_eq_decide, ← o_u1 hg h1 h2]; simp
 rw [he] at hs
 simp only [o_cd, arrD, o_g] at hs ⊢
 generalize decide (l = m) = eq at *
 generalize vecD (wdR k a b) (encs k a b m) = VM at *
 generalize vecD (wdR k a b) (encs k a b l) = VL at *
 refine A01 hs ?_; try with_reducible exact tt

theorem o_v5 (ws vs : List (Nat × Nat)) (hn : ws.length ≤ 4000) (hm : vs.length ≤ 4000) : Eqn Tryz.prog o_e4 [.d (.sl ws.length (hashesD ws)), .d (.sl vs.length (hashesD vs))] [] (.d (.bool (decide (ws = vs)))) [] := by
 refine Eqn.pure o_nd Plain.ok ?_
 simp only [o_e5]
 by_cases hl : ws.length = vs.length
 ·have hlp : (ws.length : Int) = vs.length := by omega
  refine A10 hlp ?_; try with_reducible exact tt
  refine AW.loopT (α := Nat) 0 (fun s => [(13, .d (.int .i64 (s : Int)))]) (fun s => []) (fun s => s ≤ ws.length ∧ ws.take s = vs.take s) (fun s => ws.length - s) 0 ?_ ?_ ⟨Nat.zero_le _, by simp⟩ ?_ ?_ ?_
  ·simp
  ·simp
  ·simp
  ·simp
  rintro i ⟨hi, he⟩
  simp
  by_cases hi' : i < ws.length
  ·have h1 : (i : Int) < ws.length := by omega
   have h1v : (i : Int) < vs.length := by omega
   have hiv : i < vs.length := by omega
   have ew : IntKind.i64.wrap ((i : Int) + 1) = ((i + 1 : Nat) : Int) := by rw [w64 (by omega) (by omega)]; omega
   have g1 := o_iz ws i hi'
   have g2 := o_iz vs i hiv
   have b1 : i * 2 + 2 ≤ ws.length * 2 := by omega
   have b2 : i * 2 + 2 ≤ vs.length * 2 := by omega
   have l1 := o_2v ws
   have l2 := o_2v vs
   by_cases heq : ws[i] = vs[i]
   ·rw [← heq] at g2
    generalize hashesD ws = WD at *
    generalize hashesD vs = VD at *
    refine A10 (fs hi' (fs h1 (fs h1v (fs hiv (fs hlp (fs g1 (fs g2 (fs b1 (fs b2 (fs l1 (fs l2 ew))))))))))) ?_; try with_reducible exact tt
    refine ⟨i + 1, ⟨by omega, ?_⟩, by omega, by simp⟩
    rw [List.take_add_one, List.take_add_one, he, List.getElem?_eq_getElem hi', List.getElem?_eq_getElem hiv, heq]
   ·have hne : ¬ ((ws[i].1 : Int) = vs[i].1 ∧ (ws[i].2 : Int) = vs[i].2) := fun h => heq (Prod.ext (by omega) (by omega))
    have hne2 : ((ws[i].1 : Int) = vs[i].1) → ¬ ((ws[i].2 : Int) = vs[i].2) := fun h k => hne ⟨h, k⟩
    have hfin : decide (ws = vs) = false := by
     rw [decide_eq_false_iff_not]
     rintro rfl
     exact heq rfl
    rw [hfin]
    generalize hashesD ws = WD at *
    generalize hashesD vs = VD at *
    generalize ws[i].1 = x1 at *
    generalize ws[i].2 = x2 at *
    generalize vs[i].1 = y1 at *
    generalize vs[i].2 = y2 at *
    by_cases hx : (x1 : Int) = y1
    ·have hy := hne2 hx
     have hx' : x1 = y1 := by omega
     have hy' : ¬ x2 = y2 := by omega
     subst hx'
     refine A10 (fs hi' (fs h1 (fs h1v (fs hiv (fs hlp (fs g1 (fs g2 (fs b1 (fs b2 (fs l1 (fs l2 (fs hy hy')))))))))))) ?_; try with_reducible exact tt
    ·have hx' : ¬ x1 = y1 := by omega
     refine A10 (fs hi' (fs h1 (fs h1v (fs hiv (fs hlp (fs g1 (fs g2 (fs b1 (fs b2 (fs l1 (fs l2 (fs hx hx')))))))))))) ?_; try with_reducible exact tt
  ·have hi2 : i = ws.length := by omega
   subst hi2
   rw [List.take_length, hl, List.take_length] at he
   subst he
   refine A00 ?_; try with_reducible exact tt
 ·have hlp : ¬ (ws.length : Int) = vs.length := by omega
  have hfin : decide (ws = vs) = false := by
   rw [decide_eq_false_iff_not]
   rintro rfl
   exact hl rfl
  rw [hfin]
  refine A10 (fs hlp hl) ?_; try with_reducible exact tt
end
end Go.Proofs.YtijbgbpjionfjaaGreatDoor.Am
namespace Go.Proofs.YtijbgbpjionfjaaGreatDoor.Am
section
open Go.RowKit
set_option maxHeartbeats 4000000 in
/-- a merge that is through: the array holds the twin's vector -/
theorem o_r {k a b : Nat} (cs : List Bool) (l m : List ST) (p : Nat) (d : Bool) (hg : GoodR k a b) (hl : wells k a b l) (hm : wells k a b m) (h1 : 1 ≤ l.length) (hn : l.length ≤ 256) (hlm : l.length = m.length) (hp : p ≤ cs.length) (hc : cs.length ≤ 4000000) (S : MR) (hS : S = mergeUp cs k a b l m p d l.length) (he : S.e = 0) :
  EqnD Tryz.prog o_64 [.p 0 0, .p 3 0, .d (.ptr (arrD k a b m) 0)] [arrO 1 k a b, arrV 2 k a b l, arrB k a b l, tapeO cs p d] (.d (.int .i64 0)) [arrO 4 k a b, arrV 2 k a b l, arrB k a b l, tapeO cs S.p S.d, arrV 5 k a b S.l, arrB k a b S.l] [1, 2] := by
 refine Eqn.gen [0, 1, 2, 3, 5, 6] o_cw (by simp) (by simp) (by rfl) (by decide) (by simp) (by simp [arrO, arrV, arrB, vecO, vecB, tapeO]) ?_
 have hSl : S.l.length = l.length := by rw [hS]; exact (o_8 hg hl hm hp l.length (Nat.le_refl _) (by omega)).2.2 (by rw [← hS]; exact he)
 have hp1 := o_4v (wdR k a b) (encs k a b l)
 have hp2 := o_4v (wdR k a b) (encs k a b m)
 have htk : ((wordsP (wdR k a b) (encs k a b l)).map fun x : Nat => D.int .u64 x).take (nwP l.length (wdR k a b)) = (wordsP (wdR k a b) (encs k a b l)).map fun x : Nat => D.int .u64 x := List.take_of_length_le (by simp)
 have hL0 : u64s (wordsP (wdR k a b) (encs k a b l)) = ((wordsP (wdR k a b) (encs k a b l)).map fun x : Nat => D.int .u64 x).map V.d := by simp [u64s]
 have hcl := o_iw l hg h1 hn
 have hlp : (l.length : Int) = m.length := by omega
 simp only [o_65, arrO, arrV, arrB, vecO, vecB, arrD, vecD, o_g, hSl, ← hlm] at hp1 hp2 hcl ⊢
 refine G0B ?_; try with_reducible exact tt
 refine CallS.ro [(2, 1, (wordsP (wdR k a b) (encs k a b l)).map fun x : Nat => D.int .u64 x), (1, 1, [.sl (nwP l.length (wdR k a b)) ((wordsP (wdR k a b) (encs k a b l)).map fun x : Nat => D.int .u64 x), .int .i64 l.length, .int .i64 (wdR k a b : Nat)])] (hp1) (R0B ?_) (hok := by first | (simp [frzOK, frzH, hL0, htk]; done) | (simp [frzOK, frzH, hL0, htk]; rfl)); try with_reducible exact tt
 refine CallS.pu (hp2) (R0B ?_); try with_reducible exact tt
 refine AW.cond rfl (fun h => ?_) (fun h => ?_)
 ·simp at h
 refine G0B ?_; try with_reducible exact tt
 refine CallS.g [0, 1, 2] (hcl) (R0B ?_); try with_reducible exact tt
 refine CallS.ro [(2, 1, (wordsP (wdR k a b) (encs k a b l)).map fun x : Nat => D.int .u64 x), (1, 1, [.sl (nwP l.length (wdR k a b)) ((wordsP (wdR k a b) (encs k a b l)).map fun x : Nat => D.int .u64 x), .int .i64 l.length, .int .i64 (wdR k a b : Nat)])] (hp1) (R0B ?_) (hok := by first | (simp [frzOK, frzH, hL0, htk]; done) | (simp [frzOK, frzH, hL0, htk]; rfl)); try with_reducible exact tt
 refine AW.loopT (α := Nat) 7 (fun i => [(44, .d (.int .i64 (i : Int)))]) (fun i => [(3, tapeO cs (mergeUp cs k a b l m p d i).p (mergeUp cs k a b l m p d i).d), (6, ⟨28, u64s (wordsP (wdR k a b) (encs k a b (twin l (mergeUp cs k a b l m p d i).l)))⟩)]) (fun i => i ≤ l.length ∧ (mergeUp cs k a b l m p d i).e = 0) (fun i => l.length - i) 0 ?_ ?_ ⟨Nat.zero_le _, rfl⟩ ?_ ?_ ?_
 ·simp
 ·simp
 ·simp
 ·simp [o_j7, mergeUp, -Bool.exists_bool]
 rintro i ⟨hi, hTe⟩
 simp [-Bool.exists_bool]
 have hTw := o_8 (d := d) hg hl hm hp i (by omega) (by omega)
 by_cases hi' : i < l.length
 ·have hno : (mergeUp cs k a b l m p d (i + 1)).e = 0 := by
   by_cases h : (mergeUp cs k a b l m p d (i + 1)).e = 0
   ·exact h
   ·have := o_2x h (l.length - (i + 1))
    rw [show i + 1 + (l.length - (i + 1)) = l.length by omega, ← hS] at this
    rw [← this]; exact he
  have hga := o_8b l i hg hl hi' hn
  have hgm := o_4o m i hg hm (by omega) (by omega)
  have hwl := o_5 hl hi'
  have hwm := o_5 hm (i := i) (by omega)
  obtain ⟨s, hs⟩ : ∃ s, l.getD i (0, 0, false) = s := ⟨_, rfl⟩
  obtain ⟨r, hr⟩ : ∃ s, m.getD i (0, 0, false) = s := ⟨_, rfl⟩
  rw [hs] at hga hwl
  rw [hr] at hgm hwm
  obtain ⟨R, hR⟩ : ∃ R, R = mergeRM cs k a b s.1 s.2.1 s.2.2 r.1 r.2.1 r.2.2 (mergeUp cs k a b l m p d i).p (mergeUp cs k a b l m p d i).d := ⟨_, rfl⟩
  have hst := o_8i rfl hTe hs hr hR
  have hmw := o_7q (cs := cs) (p := (mergeUp cs k a b l m p d i).p) (d := (mergeUp cs k a b l m p d i).d) hg hwl hwm hTw.1
  rw [← hR] at hmw
  have hrm := o_4a cs k a b s.1 s.2.1 s.2.2 r.1 r.2.1 r.2.2 _ _ hg hwl hwm hTw.1 hc R hR
  have hset := fun y t f => o_8c (twin l (mergeUp cs k a b l m p d i).l) i y t f hg (o_j9 hl hTw.2.1) (by rw [o_16 (by rw [hTw.2.2 hTe]; omega)]; exact hi') (by rw [o_16 (by rw [hTw.2.2 hTe]; omega)]; exact hn)
  have htl : (twin l (mergeUp cs k a b l m p d i).l).length = l.length := o_16 (by rw [hTw.2.2 hTe]; omega)
  have hts := o_j8 (l := l) (acc := (mergeUp cs k a b l m p d i).l) (by rw [hTw.2.2 hTe]; omega) (R.y, R.t, R.f)
  have htl2 : (twin l ((mergeUp cs k a b l m p d i).l ++ [(R.y, R.t, R.f)])).length = l.length := o_16 (by rw [List.length_append, hTw.2.2 hTe]; simp; omega)
  rw [hTw.2.2 hTe] at hts
  clear hR hs hr
  generalize mergeUp cs k a b l m p d i = T at *
  obtain ⟨Te, Tl, Tp, Td⟩ := T
  obtain ⟨s1, s2, s3⟩ := s
  obtain ⟨r1, r2, r3⟩ := r
  obtain ⟨e, ry, rt, rf, rp, rd⟩ := R
  have hi2 : (i : Int) < l.length := by omega
  have ew : IntKind.i64.wrap ((i : Int) + 1) = ((i + 1 : Nat) : Int) := by rw [w64 (by omega) (by omega)]; omega
  simp only at hTe hst hmw hrm hset hts htl htl2
  simp only [arrO, arrV, arrB, arrD, vecD, vecO, vecB, o_g, htl, parD, tsD, stR, ← hlm] at hga hgm hrm hset ⊢
  refine G1B (fs hi' hi2) ?_; try with_reducible exact tt
  refine AW.cond rfl (fun h => ?_) (fun h => ?_)
  rotate_left
  ·simp [hi', hi2] at h
  clear h
  refine G0B ?_; try with_reducible exact tt
  refine CallS.g [0, 1, 2] (hga) (R0B ?_); try with_reducible exact tt
  refine CallS.pu (hgm) (R0B ?_); try with_reducible exact tt
  by_cases hre : e = 0
  ·subst hre
   rw [if_pos rfl] at hst
   replace hset := hset ry rt rf (hmw.2 rfl)
   rw [hts] at hset
   try simp only [htl2] at hset
   simp only [if_true] at hrm
   refine CallS.o1 3 (hrm) (R0B ?_); try with_reducible exact tt
   refine AW.cond rfl (fun h => ?_) (fun h => ?_)
   ·simp at h
   refine G0B ?_; try with_reducible exact tt
   refine CallS.g [4, 5, 6] (hset) (R1B ew ?_); try with_reducible exact tt
   refine ⟨i + 1, ⟨by omega, by rw [hst]⟩, by omega, ?_⟩
   rw [hst]
   simp [-Bool.exists_bool]
  ·exfalso
   rw [if_neg hre] at hst
   rw [hst] at hno
   exact hre hno
 ·have h2 : i = l.length := by omega
  subst h2
  rw [← hS]
  rw [o_v3 hSl]
  refine G0B ?_; try with_reducible exact tt
  refine AW.cond rfl (fun h => ?_) (fun h => ?_)
  ·simp at h
  refine AW.exit ?_
  (try (simp -implicitDefEqProofs [-Bool.exists_bool]; try simp (disch := omega) only [w64, wu64]))
  refine G0B ?_; try with_reducible exact tt

set_option maxHeartbeats 4000000 in
/-- a merge that fails: nothing has changed but the tape -/
theorem o_s {k a b : Nat} (cs : List Bool) (l m : List ST) (p : Nat) (d : Bool) (hg : GoodR k a b) (hl : wells k a b l) (hm : wells k a b m) (h1 : 1 ≤ l.length) (hn : l.length ≤ 256) (hlm : l.length = m.length) (hp : p ≤ cs.length) (hc : cs.length ≤ 4000000) (S : MR) (hS : S = mergeUp cs k a b l m p d l.length) (he : S.e ≠ 0) :
  Eqn Tryz.prog o_64 [.p 0 0, .p 3 0, .d (.ptr (arrD k a b m) 0)] [arrO 1 k a b, arrV 2 k a b l, arrB k a b l, tapeO cs p d] (.d (.int .i64 S.e)) [arrO 1 k a b, arrV 2 k a b l, arrB k a b l, tapeO cs S.p S.d] := by
 refine Eqn.gen [0, 1, 2, 3] o_cw (by simp) (by simp) (by rfl) (by decide) (by simp) (by simp [arrO, arrV, arrB, vecO, vecB, tapeO]) ?_
 have hSl : True := trivial
 have hp1 := o_4v (wdR k a b) (encs k a b l)
 have hp2 := o_4v (wdR k a b) (encs k a b m)
 have htk : ((wordsP (wdR k a b) (encs k a b l)).map fun x : Nat => D.int .u64 x).take (nwP l.length (wdR k a b)) = (wordsP (wdR k a b) (encs k a b l)).map fun x : Nat => D.int .u64 x := List.take_of_length_le (by simp)
 have hL0 : u64s (wordsP (wdR k a b) (encs k a b l)) = ((wordsP (wdR k a b) (encs k a b l)).map fun x : Nat => D.int .u64 x).map V.d := by simp [u64s]
 have hcl := o_iw l hg h1 hn
 have hlp : (l.length : Int) = m.length := by omega
 simp only [o_65, arrO, arrV, arrB, vecO, vecB, arrD, vecD, o_g, hSl, ← hlm] at hp1 hp2 hcl ⊢
 refine G0B ?_; try with_reducible exact tt
 refine CallS.ro [(2, 1, (wordsP (wdR k a b) (encs k a b l)).map fun x : Nat => D.int .u64 x), (1, 1, [.sl (nwP l.length (wdR k a b)) ((wordsP (wdR k a b) (encs k a b l)).map fun x : Nat => D.int .u64 x), .int .i64 l.length, .int .i64 (wdR k a b : Nat)])] (hp1) (R0B ?_) (hok := by first | (simp [frzOK, frzH, hL0, htk]; done) | (simp [frzOK, frzH, hL0, htk]; rfl)); try with_reducible exact tt
 refine CallS.pu (hp2) (R0B ?_); try with_reducible exact tt
 refine AW.cond rfl (fun h => ?_) (fun h => ?_)
 ·simp at h
 refine G0B ?_; try with_reducible exact tt
 refine CallS.g [0, 1, 2] (hcl) (R0B ?_); try with_reducible exact tt
 refine CallS.ro [(2, 1, (wordsP (wdR k a b) (encs k a b l)).map fun x : Nat => D.int .u64 x), (1, 1, [.sl (nwP l.length (wdR k a b)) ((wordsP (wdR k a b) (encs k a b l)).map fun x : Nat => D.int .u64 x), .int .i64 l.length, .int .i64 (wdR k a b : Nat)])] (hp1) (R0B ?_) (hok := by first | (simp [frzOK, frzH, hL0, htk]; done) | (simp [frzOK, frzH, hL0, htk]; rfl)); try with_reducible exact tt
 refine AW.loopT (α := Nat) 7 (fun i => [(44, .d (.int .i64 (i : Int)))]) (fun i => [(3, tapeO cs (mergeUp cs k a b l m p d i).p (mergeUp cs k a b l m p d i).d), (6, ⟨28, u64s (wordsP (wdR k a b) (encs k a b (twin l (mergeUp cs k a b l m p d i).l)))⟩)]) (fun i => i ≤ l.length ∧ (mergeUp cs k a b l m p d i).e = 0) (fun i => l.length - i) 0 ?_ ?_ ⟨Nat.zero_le _, rfl⟩ ?_ ?_ ?_
 ·simp
 ·simp
 ·simp
 ·simp [o_j7, mergeUp, -Bool.exists_bool]
 rintro i ⟨hi, hTe⟩
 simp [-Bool.exists_bool]
 have hTw := o_8 (d := d) hg hl hm hp i (by omega) (by omega)
 by_cases hi' : i < l.length
 ·have hend : (mergeUp cs k a b l m p d (i + 1)).e ≠ 0 → mergeUp cs k a b l m p d (i + 1) = S := fun h => by
   have := o_2x h (l.length - (i + 1))
   rw [show i + 1 + (l.length - (i + 1)) = l.length by omega, ← hS] at this
   exact this.symm
  have hga := o_8b l i hg hl hi' hn
  have hgm := o_4o m i hg hm (by omega) (by omega)
  have hwl := o_5 hl hi'
  have hwm := o_5 hm (i := i) (by omega)
  obtain ⟨s, hs⟩ : ∃ s, l.getD i (0, 0, false) = s := ⟨_, rfl⟩
  obtain ⟨r, hr⟩ : ∃ s, m.getD i (0, 0, false) = s := ⟨_, rfl⟩
  rw [hs] at hga hwl
  rw [hr] at hgm hwm
  obtain ⟨R, hR⟩ : ∃ R, R = mergeRM cs k a b s.1 s.2.1 s.2.2 r.1 r.2.1 r.2.2 (mergeUp cs k a b l m p d i).p (mergeUp cs k a b l m p d i).d := ⟨_, rfl⟩
  have hst := o_8i rfl hTe hs hr hR
  have hmw := o_7q (cs := cs) (p := (mergeUp cs k a b l m p d i).p) (d := (mergeUp cs k a b l m p d i).d) hg hwl hwm hTw.1
  rw [← hR] at hmw
  have hrm := o_4a cs k a b s.1 s.2.1 s.2.2 r.1 r.2.1 r.2.2 _ _ hg hwl hwm hTw.1 hc R hR
  have hset := fun y t f => o_8c (twin l (mergeUp cs k a b l m p d i).l) i y t f hg (o_j9 hl hTw.2.1) (by rw [o_16 (by rw [hTw.2.2 hTe]; omega)]; exact hi') (by rw [o_16 (by rw [hTw.2.2 hTe]; omega)]; exact hn)
  have htl : (twin l (mergeUp cs k a b l m p d i).l).length = l.length := o_16 (by rw [hTw.2.2 hTe]; omega)
  have hts := o_j8 (l := l) (acc := (mergeUp cs k a b l m p d i).l) (by rw [hTw.2.2 hTe]; omega) (R.y, R.t, R.f)
  have htl2 : (twin l ((mergeUp cs k a b l m p d i).l ++ [(R.y, R.t, R.f)])).length = l.length := o_16 (by rw [List.length_append, hTw.2.2 hTe]; simp; omega)
  rw [hTw.2.2 hTe] at hts
  clear hR hs hr
  generalize mergeUp cs k a b l m p d i = T at *
  obtain ⟨Te, Tl, Tp, Td⟩ := T
  obtain ⟨s1, s2, s3⟩ := s
  obtain ⟨r1, r2, r3⟩ := r
  obtain ⟨e, ry, rt, rf, rp, rd⟩ := R
  have hi2 : (i : Int) < l.length := by omega
  have ew : IntKind.i64.wrap ((i : Int) + 1) = ((i + 1 : Nat) : Int) := by rw [w64 (by omega) (by omega)]; omega
  simp only at hTe hst hmw hrm hset hts htl htl2
  simp only [arrO, arrV, arrB, arrD, vecD, vecO, vecB, o_g, htl, parD, tsD, stR, ← hlm] at hga hgm hrm hset ⊢
  refine G1B (fs hi' hi2) ?_; try with_reducible exact tt
  refine AW.cond rfl (fun h => ?_) (fun h => ?_)
  rotate_left
  ·simp [hi', hi2] at h
  clear h
  refine G0B ?_; try with_reducible exact tt
  refine CallS.g [0, 1, 2] (hga) (R0B ?_); try with_reducible exact tt
  refine CallS.pu (hgm) (R0B ?_); try with_reducible exact tt
  by_cases hre : e = 0
  ·subst hre
   rw [if_pos rfl] at hst
   replace hset := hset ry rt rf (hmw.2 rfl)
   rw [hts] at hset
   try simp only [htl2] at hset
   simp only [if_true] at hrm
   refine CallS.o1 3 (hrm) (R0B ?_); try with_reducible exact tt
   refine AW.cond rfl (fun h => ?_) (fun h => ?_)
   ·simp at h
   refine G0B ?_; try with_reducible exact tt
   refine CallS.g [4, 5, 6] (hset) (R1B ew ?_); try with_reducible exact tt
   refine ⟨i + 1, ⟨by omega, by rw [hst]⟩, by omega, ?_⟩
   rw [hst]
   simp [-Bool.exists_bool]
  ·rw [if_neg hre] at hst
   have hSe := hend (by rw [hst]; exact hre)
   rw [hst] at hSe
   rw [← hSe]
   simp only [if_neg hre] at hrm
   refine CallS.o1 3 (hrm) (R1B hre ?_); try with_reducible exact tt
   refine AW.cond rfl (fun h => ?_) (fun h => ?_)
   ·refine G0B ?_; try with_reducible exact tt
   ·simp [hre] at h
 ·exfalso
  have h2 : i = l.length := by omega
  subst h2
  rw [← hS] at hTe
  exact he hTe
end
end Go.Proofs.YtijbgbpjionfjaaGreatDoor.Am
namespace Go.Proofs.YtijbgbpjionfjaaGreatDoor.Am
section
open Go.RowKit
def hsOf (rs : List Rw) : List (Nat × Nat) := rs.map fun r => (r.a, r.b)
theorem o_23 {R C k a b T V : Nat} (rs ms : List Rw) (h0 : 1 ≤ rs.length) (hn : rs.length ≤ 4) (m0 : 1 ≤ ms.length) (mn : ms.length ≤ 4) :
  Eqn Tryz.prog o_ce [.p 0 0, .p 1 0] [skO R C k a b rs T, skO R C k a b ms V] (.d (.bool (decide (rs.map (fun r => (r.a, r.b)) = ms.map fun r => (r.a, r.b))))) [skO R C k a b rs T, skO R C k a b ms V] := by
 refine Eqn.gen [0, 1] o_mi (by simp) (by simp) (by rfl) (by decide) (by simp) (by simp [skO, skD]) ?_
 have h1 := o_8h (R := R) (C := C) (k := k) (a := a) (b := b) (T := T) rs h0 hn
 have h2 := o_8h (R := R) (C := C) (k := k) (a := a) (b := b) (T := V) ms m0 mn
 have he := o_v5 (rs.map fun r => (r.a, r.b)) (ms.map fun r => (r.a, r.b)) (by simp; omega) (by simp; omega)
 have l1 := o_2v (rs.map fun r => (r.a, r.b))
 have l2 := o_2v (ms.map fun r => (r.a, r.b))
 have t1 : (hashesD (rs.map fun r => (r.a, r.b))).take (rs.length * 2) = hashesD (rs.map fun r => (r.a, r.b)) := List.take_of_length_le (by rw [l1]; simp)
 have t2 : (hashesD (ms.map fun r => (r.a, r.b))).take (ms.length * 2) = hashesD (ms.map fun r => (r.a, r.b)) := List.take_of_length_le (by rw [l2]; simp)
 simp only [o_cf, skO, skD, List.map_cons, List.map_nil, List.length_map] at h1 h2 he ⊢
 generalize decide (rs.map (fun r => (r.a, r.b)) = ms.map fun r => (r.a, r.b)) = eq at *
 generalize hashesD (rs.map fun r => (r.a, r.b)) = H1 at *
 generalize hashesD (ms.map fun r => (r.a, r.b)) = H2 at *
 generalize rowsD k a b rs = R1 at *
 generalize rowsD k a b ms = R2 at *
 rw [← t1, ← t2] at he
 refine A00 ?_; try with_reducible exact tt
 refine CallS.g [0] (h1) (R0 ?_); try with_reducible exact tt
 refine CallS.g [1] (h2) (R0 ?_); try with_reducible exact tt
 refine CallS.ro [(2, 2, H1), (3, 2, H2)] (he) (R0 ?_) (hok := by first | (simp [frzOK, frzH, t1, t2, o_8d]; done) | (simp [frzOK, frzH, t1, t2, o_8d]; rfl)); try with_reducible exact tt
theorem o_v6 {k a b : Nat} (A B A' B' : Nat) (l m : List ST) (hg : GoodR k a b) (h1 : wells k a b l) (h2 : wells k a b m) (hl : 1 ≤ l.length) (hln : l.length ≤ 256) (hm : 1 ≤ m.length) (hmn : m.length ≤ 256) :
  Eqn Tryz.prog o_5z [.d (.agg [.int .u64 A, .int .u64 B, .ptr (arrD k a b l) 0]), .d (.agg [.int .u64 A', .int .u64 B', .ptr (arrD k a b m) 0])] [] (.d (.bool (decide (l = m)))) [] := by
 refine Eqn.pure o_mg Plain.ok ?_
 have hs := o_v4 l m hg h1 h2 hl hln hm hmn
 simp only [o_cb]
 generalize decide (l = m) = eq at *
 generalize arrD k a b l = AL at *
 generalize arrD k a b m = AM at *
 refine A01 hs ?_; try with_reducible exact tt
theorem o_v7 {C k a b : Nat} (rs ms : List Rw) (hg : GoodR k a b) (hC : 1 ≤ C) (hC2 : C ≤ 64) (hr : ∀ r ∈ rs, GoodRow C k a b r) (hm : ∀ r ∈ ms, GoodRow C k a b r) (hn : rs.length ≤ 4) (hl : rs.length = ms.length) :
  Eqn Tryz.prog o_cg [.d (.sl rs.length (rowsD k a b rs)), .d (.sl ms.length (rowsD k a b ms)), .fn (.func o_5z) []] [] (.d (.bool (decide (rs.map Rw.l = ms.map Rw.l)))) [] := by
 refine Eqn.pure o_mj Plain.ok ?_
 have hlp : (rs.length : Int) = ms.length := by omega
 have hg1 := o_4t k a b rs
 have hg2 := o_4t k a b ms
 have l1 := o_4s k a b rs
 have l2 := o_4s k a b ms
 simp only [o_ch]
 generalize rowsD k a b rs = RD at *
 generalize rowsD k a b ms = MD at *
 refine A10 (fs hlp hl) ?_; try with_reducible exact tt
 refine AW.loopT (α := Nat) 0 (fun s => [(17, .d (.int .i64 (s : Int)))]) (fun s => []) (fun s => s ≤ rs.length ∧ (rs.map Rw.l).take s = (ms.map Rw.l).take s) (fun s => rs.length - s) 0 ?_ ?_ ⟨Nat.zero_le _, by simp⟩ ?_ ?_ ?_
 ·simp
 ·simp
 ·simp
 ·simp
 rintro i ⟨hi, he⟩
 simp
 by_cases hi' : i < rs.length
 ·have p1 : (i : Int) < rs.length := by omega
  have pp2 : (i : Int) < ms.length := by omega
  have hiv : i < ms.length := by omega
  have ew : IntKind.i64.wrap ((i : Int) + 1) = ((i + 1 : Nat) : Int) := by rw [w64 (by omega) (by omega)]; omega
  have g1 := hg1 i hi'
  have g2 := hg2 i hiv
  have b1 : i * 3 + 3 ≤ rs.length * 3 := by omega
  have b2 : i * 3 + 3 ≤ ms.length * 3 := by omega
  obtain ⟨-, -, c1, w1⟩ := hr rs[i] (List.getElem_mem _)
  obtain ⟨-, -, c2, w2⟩ := hm ms[i] (List.getElem_mem _)
  have hsc := o_v6 rs[i].a rs[i].b ms[i].a ms[i].b rs[i].l ms[i].l hg w1 w2 (by omega) (by omega) (by omega) (by omega)
  have hnx : rs[i].l = ms[i].l → (rs.map Rw.l).take (i + 1) = (ms.map Rw.l).take (i + 1) := fun h => by
   rw [List.take_add_one, List.take_add_one, he, List.getElem?_map, List.getElem?_map, List.getElem?_eq_getElem hi', List.getElem?_eq_getElem hiv, Option.map_some, Option.map_some, h]
  have hno : ¬ rs[i].l = ms[i].l → decide (rs.map Rw.l = ms.map Rw.l) = false := fun h => by
   rw [decide_eq_false_iff_not]
   intro h2
   have := congrArg (fun l => l[i]?) h2
   simp only [List.getElem?_map, List.getElem?_eq_getElem hi', List.getElem?_eq_getElem hiv, Option.map_some, Option.some.injEq] at this
   exact h this
  by_cases heq : rs[i].l = ms[i].l
  ·rw [decide_eq_true heq] at hsc
   replace hnx := hnx heq
   clear hno
   generalize arrD k a b rs[i].l = AL at *
   generalize arrD k a b ms[i].l = AM at *
   refine A10 (fs hi' (fs p1 (fs pp2 (fs hiv (fs g1 (fs g2 (fs b1 (fs b2 (fs l1 l2))))))))) ?_; try with_reducible exact tt
   refine CallS.pu (hsc) (R1 ew ?_); try with_reducible exact tt
   refine A10 ew ?_; try with_reducible exact tt
   exact ⟨i + 1, ⟨by omega, hnx⟩, by omega, Sub1.int (by omega)⟩
  ·rw [decide_eq_false heq] at hsc
   rw [hno heq]
   generalize arrD k a b rs[i].l = AL at *
   generalize arrD k a b ms[i].l = AM at *
   refine A10 (fs hi' (fs p1 (fs pp2 (fs hiv (fs g1 (fs g2 (fs b1 (fs b2 (fs l1 l2))))))))) ?_; try with_reducible exact tt
   refine CallS.pu (hsc) (R0 ?_); try with_reducible exact tt
   refine A00 ?_; try with_reducible exact tt
 ·have hi2 : i = rs.length := by omega
  subst hi2
  rw [List.take_of_length_le (by simp), List.take_of_length_le (by simp; omega)] at he
  rw [decide_eq_true he]
  refine A10 (fs hlp hl) ?_; try with_reducible exact tt
theorem o_ja : ∀ {rs ms : List Rw}, rs.map (fun r => (r.a, r.b)) = ms.map (fun r => (r.a, r.b)) → rs.map Rw.l = ms.map Rw.l → rs = ms
 | [], [], _, _ => rfl
 | [], m :: ms, h, _ => by simp at h
 | r :: rs, [], h, _ => by simp at h
 | ⟨a, b, l⟩ :: rs, ⟨c, d, m⟩ :: ms, h, g => by
  simp only [List.map_cons, List.cons.injEq, Prod.mk.injEq] at h g
  obtain ⟨⟨rfl, rfl⟩, h⟩ := h
  obtain ⟨rfl, g⟩ := g
  rw [o_ja h g]
instance : DecidableEq Rw := fun x y => decidable_of_iff (x.a = y.a ∧ x.b = y.b ∧ x.l = y.l) (by cases x; cases y; simp)
theorem o_4w {R C k a b T V : Nat} (rs ms : List Rw) (hg : GoodR k a b) (hC : 1 ≤ C) (hC2 : C ≤ 64) (hr : ∀ r ∈ rs, GoodRow C k a b r) (hm : ∀ r ∈ ms, GoodRow C k a b r) (h1 : 1 ≤ rs.length) (hn : rs.length ≤ 4) (hl : rs.length = ms.length) :
  Eqn Tryz.prog o_b1 [.p 0 0, .p 1 0] [skO R C k a b rs T, skO R C k a b ms V] (.d (.bool (decide (rs = ms ∧ T = V)))) [skO R C k a b rs T, skO R C k a b ms V] := by
 refine Eqn.gen [0, 1] o_ls (by simp) (by simp) (by rfl) (by decide) (by simp) (by simp [skO, skD]) ?_
 have ha := o_23 (R := R) (C := C) (k := k) (a := a) (b := b) (T := T) (V := V) rs ms h1 hn (by omega) (by omega)
 have he := o_v7 rs ms hg hC hC2 hr hm hn hl
 simp only [o_b2, skO, skD, List.map_cons, List.map_nil, ← hl] at ha he ⊢
 have hlp : (rs.length : Int) = ms.length := by omega
 by_cases q1 : rs.map (fun r => (r.a, r.b)) = ms.map fun r => (r.a, r.b)
 ·rw [decide_eq_true q1] at ha
  by_cases q2 : T = V
  ·subst q2
   by_cases q3 : rs.map Rw.l = ms.map Rw.l
   ·rw [decide_eq_true q3] at he
    rw [decide_eq_true (show rs = ms ∧ T = T from ⟨o_ja q1 q3, rfl⟩)]
    generalize rowsD k a b rs = RD at *
    generalize rowsD k a b ms = MD at *
    refine A00 ?_; try with_reducible exact tt
    refine CallS.g [0, 1] (ha) (R0 ?_); try with_reducible exact tt
    refine CallS.pu (he) (R0 ?_); try with_reducible exact tt
   ·rw [decide_eq_false q3] at he
    rw [decide_eq_false (show ¬ (rs = ms ∧ T = T) from fun h => q3 (by rw [h.1]))]
    generalize rowsD k a b rs = RD at *
    generalize rowsD k a b ms = MD at *
    refine A00 ?_; try with_reducible exact tt
    refine CallS.g [0, 1] (ha) (R0 ?_); try with_reducible exact tt
    refine CallS.pu (he) (R0 ?_); try with_reducible exact tt
  ·rw [decide_eq_false (show ¬ (rs = ms ∧ T = V) from fun h => q2 h.2)]
   have q2' : ¬ (T : Int) = V := by omega
   generalize rowsD k a b rs = RD at *
   generalize rowsD k a b ms = MD at *
   refine A00 ?_; try with_reducible exact tt
   refine CallS.g [0, 1] (ha) (R1 (fs q2 q2') ?_); try with_reducible exact tt
 ·rw [decide_eq_false q1] at ha
  rw [decide_eq_false (show ¬ (rs = ms ∧ T = V) from fun h => q1 (by rw [h.1]))]
  generalize rowsD k a b rs = RD at *
  generalize rowsD k a b ms = MD at *
  refine A00 ?_; try with_reducible exact tt
  refine CallS.g [0, 1] (ha) (R0 ?_); try with_reducible exact tt
end
end Go.Proofs.YtijbgbpjionfjaaGreatDoor.Am
