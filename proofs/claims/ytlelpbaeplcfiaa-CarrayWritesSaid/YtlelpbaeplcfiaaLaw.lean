/- Parts of the proof: Pack1, Pack2, Carr1, Carr2, Carr3, Carr6, Carr7, AmLB, Reg5, ChainG, ChainH, AmLaw, Reg6, Carr4, Carr8, Carr9, CarrA, CarrB, Cread, WrA, WrB, WrC, WrD, WrE, WrF, WrG, WrH, WrR, WrI, CarrC, AmLaw2, ChainI, ChainJ, CmergeL, CwritesL. -/
import Derived.Test.YtlelpbaeplcfiaaPc
set_option linter.unusedVariables false
set_option linter.unusedSimpArgs false
set_option maxRecDepth 100000
namespace Go.Proofs.Ytlelpbaeplcfiaa.Am
section
open Go.RowKit
def u64s (ws : List Nat) : List V := ws.map fun x : Nat => V.d (.int .u64 x)
theorem o_et (ws : List Nat) : (u64s ws).length = ws.length := by simp [u64s]
theorem o_eu {ws : List Nat} {j : Nat} (h : j < ws.length) : (u64s ws)[j]? = some (.d (.int .u64 (ws.getD j 0 : Nat))) := by simp [u64s, h]
theorem o_ev (ws : List Nat) (j v : Nat) : (u64s ws).set j (.d (.int .u64 v)) = u64s (ws.set j v) := by simp [u64s, List.map_set]
@[simp] theorem o_ew (n : Nat) (ws : List Nat) : V.lowl n (u64s ws) = true := by induction ws <;> simp_all [u64s]
@[simp] theorem o_ex (θ : Nat → Nat) (ws : List Nat) : V.rens θ (u64s ws) = u64s ws := by induction ws <;> simp_all [u64s]
def vecO (m n w : Nat) : Ob := ⟨70, [.own m 1 (nwP n w), .d (.int .i64 n), .d (.int .i64 w)]⟩
def vecB (w : Nat) (xs : List Nat) : Ob := ⟨71, u64s (wordsP w xs)⟩

theorem o_ey (x y : Nat) (hx : x < 18446744073709551616) (hy : y < 18446744073709551616) : bits BinOp.and IntKind.u64 (x : Int) (y : Int) = ((x &&& y : Nat) : Int) := by
 show IntKind.u64.wrap (((BitVec.ofInt 64 (x : Int)) &&& (BitVec.ofInt 64 (y : Int))).toNat : Int) = _
 rw [BitVec.toNat_and, BitVec.ofInt_natCast, BitVec.ofInt_natCast, BitVec.toNat_ofNat, BitVec.toNat_ofNat, Nat.mod_eq_of_lt (by omega), Nat.mod_eq_of_lt (by omega)]
 have : x &&& y ≤ x := Nat.and_le_left
 rw [IntKind.wrap_u64]
 omega
theorem o_ez (x y : Nat) (hx : x < 18446744073709551616) (hy : y < 18446744073709551616) : bits BinOp.andNot IntKind.u64 (x : Int) (y : Int) = ((andN x y : Nat) : Int) := by
 show IntKind.u64.wrap (((BitVec.ofInt 64 (x : Int)) &&& ~~~(BitVec.ofInt 64 (y : Int))).toNat : Int) = _
 rw [BitVec.toNat_and, BitVec.toNat_not, BitVec.ofInt_natCast, BitVec.ofInt_natCast, BitVec.toNat_ofNat, BitVec.toNat_ofNat, Nat.mod_eq_of_lt (by omega), Nat.mod_eq_of_lt (by omega)]
 have : x &&& (2 ^ 64 - 1 - y) ≤ x := Nat.and_le_left
 rw [IntKind.wrap_u64]
 unfold andN
 omega

theorem o_f0 (n w : Nat) (hn : n ≤ 256) (hw0 : 0 < w) (hw : w ≤ 32) : Eqn Try.prog o_7u [.d (.int .i64 n), .d (.int .i64 w)] [] (.tup [.p 0 0, .d (.int .i64 0)]) [vecO 1 n w, vecB w (List.replicate n 0)] := by
 refine Eqn.gen [1, 0] o_7w (by simp) (by simp) (by rfl) (by decide) (by simp) (by simp [vecO, vecB]) ?_
 have hb : n * w ≤ 256 * 32 := Nat.mul_le_mul hn hw
 have g1 : ¬ (n : Int) < 0 := by omega
 have g2 : ¬ (256 : Int) < n := by omega
 have g3 : ¬ (w : Int) < 1 := by omega
 have g4 : ¬ (32 : Int) < w := by omega
 have e1 : IntKind.i64.wrap ((n : Int) * w) = ((n * w : Nat) : Int) := by rw [w64 (by rw [← Int.natCast_mul]; omega) (by rw [← Int.natCast_mul]; omega), Int.natCast_mul]
 simp only [o_7v, vecO, vecB, o_es]
 unfold nwP
 generalize n * w = Z at *
 have e2 : IntKind.i64.wrap ((Z : Int) + 64) = ((Z + 64 : Nat) : Int) := by rw [w64 (by omega) (by omega)]; omega
 have e3 : IntKind.i64.wrap ((Z + 64 : Nat) - 1 : Int) = ((Z + 63 : Nat) : Int) := by rw [w64 (by omega) (by omega)]; omega
 have e4 : IntKind.i64.wrap (((Z + 63 : Nat) : Int) / 64) = (((Z + 63) / 64 : Nat) : Int) := by rw [w64 (by omega) (by omega)]; rfl
 have hq : (Z + 63) / 64 ≤ 1000 := by omega
 generalize (Z + 63) / 64 = q at *
 generalize Z + 63 = Z1 at *
 generalize Z + 64 = Z2 at *
 have hrep : u64s (List.replicate q 0) = List.replicate q (V.d (.int .u64 0)) := by simp [u64s]
 have hren : ∀ θ, V.rens θ (u64s (List.replicate q 0)) = u64s (List.replicate q 0) := fun θ => o_ex θ _
 rw [hrep] at hren ⊢
 refine G1 (fs g1 (fs g2 (fs g3 g4))) ?_; try with_reducible exact tt
 refine AW.cond rfl (fun h => ?_) (fun h => ?_)
 ·simp at h
 ·refine G1 (fs e1 (fs e2 (fs e3 (fs e4 hren)))) ?_; try with_reducible exact tt

def vecD (w : Nat) (xs : List Nat) : List D := [.sl (nwP xs.length w) ((wordsP w xs).map fun x : Nat => D.int .u64 x), .int .i64 xs.length, .int .i64 w]

theorem o_f1 (w : Nat) (xs : List Nat) (i : Nat) (hi : i < xs.length) (hn : xs.length ≤ 256) (hw : w ≤ 32) : Eqn Try.prog o_89 [.ia (vecD w xs) 0, .d (.int .i64 i)] [] (.tup [.d (.int .i64 (i * w / 64 : Nat)), .d (.int .i64 (i * w % 64 : Nat))]) [] := by
 refine Eqn.pure o_8b Plain.ok ?_
 have hb : i * w ≤ 256 * 32 := Nat.mul_le_mul (by omega) hw
 have e1 : IntKind.i64.wrap ((i : Int) * w) = ((i * w : Nat) : Int) := by rw [w64 (by rw [← Int.natCast_mul]; omega) (by rw [← Int.natCast_mul]; omega), Int.natCast_mul]
 simp only [o_8a, vecD]
 generalize i * w = Z at *
 have e2 : IntKind.i64.wrap ((Z : Int) / 64) = ((Z / 64 : Nat) : Int) := by rw [w64 (by omega) (by omega)]; rfl
 have e3 : (Z : Int).tmod 64 = ((Z % 64 : Nat) : Int) := by rw [Int.tmod_eq_emod_of_nonneg (by omega)]; rfl
 generalize Z / 64 = q at *
 generalize Z % 64 = r at *
 refine G1 (fs e1 (fs e2 e3)) ?_; try with_reducible exact tt

theorem o_f2 (w : Nat) (N : Nat) (L : List D) (n : Int) (hw : w ≤ 32) : Eqn Try.prog o_8c [.ia [.sl N L, .int .i64 n, .int .i64 w] 0] [] (.d (.int .u64 (2 ^ w - 1 : Nat))) [] := by
 refine Eqn.pure o_8e Plain.ok ?_
 have h32 : 2 ^ w ≤ 2 ^ 32 := Nat.pow_le_pow_right (by omega) hw
 have h0 : 0 < 2 ^ w := Nat.two_pow_pos w
 have e0 : (2 : Int) ^ w = (2 ^ w : Nat) := by rw [Int.natCast_pow]; rfl
 have hw64 : w ≤ 64 := by omega
 simp only [o_8d]
 generalize 2 ^ w = S at *
 have e3 : IntKind.u64.wrap (S : Int) = S := wu64 (by omega) (by omega)
 have e4 : IntKind.u64.wrap ((S : Int) - 1) = ((S - 1 : Nat) : Int) := by rw [wu64 (by omega) (by omega)]; omega
 refine G1 (fs e0 (fs e3 (fs e4 hw64))) ?_; try with_reducible exact tt

theorem o_f3 (w : Nat) (xs : List Nat) (hw : w ≤ 32) : Eqn Try.prog o_8c [.ia (vecD w xs) 0] [] (.d (.int .u64 (2 ^ w - 1 : Nat))) [] := o_f2 w _ _ _ hw

theorem o_f4 (w : Nat) (xs : List Nat) : Eqn Try.prog o_7o [.ia (vecD w xs) 0] [] (.d (.int .i64 w)) [] := by
 refine Eqn.pure o_7q Plain.ok ?_
 simp only [o_7p, vecD]
 refine G0 ?_; try with_reducible exact tt

theorem o_f5 (w : Nat) (xs : List Nat) (i : Nat) (hi : i < xs.length) (hn : xs.length ≤ 256) (hw0 : 0 < w) (hw : w ≤ 32) (hs : smallP w xs) : Eqn Try.prog o_70 [.ia (vecD w xs) 0, .d (.int .i64 i)] [] (.tup [.d (.int .u64 (xs.getD i 0 : Nat)), .d (.int .i64 0)]) [] := by
 refine Eqn.pure o_72 Plain.ok ?_
 have hpl := o_f1 w xs i hi hn hw
 have hma := o_f3 w xs hw
 have g1 : ¬ (i : Int) < 0 := by omega
 have g2 : ¬ (xs.length : Int) ≤ i := by omega
 have e := Nat.div_add_mod (i * w) 64
 have hm64 : i * w % 64 < 64 := Nat.mod_lt _ (by omega)
 have hle : i * w + w ≤ xs.length * w := by rw [← Nat.succ_mul]; exact Nat.mul_le_mul_right w hi
 have hq : i * w / 64 < nwP xs.length w := by unfold nwP; omega
 have hq2 : 64 < i * w % 64 + w → i * w / 64 + 1 < nwP xs.length w := by intro h; unfold nwP; omega
 have hx1 := o_ee (w := w) (xs := xs) (i * w / 64)
 have hx2 := o_ee (w := w) (xs := xs) (i * w / 64 + 1)
 have hp1 := pget1 (i := i) hs hw hi
 have hp2 := pget2 (i := i) hs hw hi
 have hqb : i * w / 64 ≤ 1000 := by have : i * w ≤ 256 * 32 := Nat.mul_le_mul (by omega) hw; omega
 have hg1 : ∀ z : D, ((wordsP w xs).map fun x : Nat => D.int .u64 x)[i * w / 64]?.getD z = .int .u64 ((wordsP w xs).getD (i * w / 64) 0 : Nat) := fun z => by simp [hq]
 have hg2 : 64 < i * w % 64 + w → ∀ z : D, ((wordsP w xs).map fun x : Nat => D.int .u64 x)[i * w / 64 + 1]?.getD z = .int .u64 ((wordsP w xs).getD (i * w / 64 + 1) 0 : Nat) := fun h z => by simp [hq2 h]
 have h32 : 2 ^ w ≤ 2 ^ 32 := Nat.pow_le_pow_right (by omega) hw
 have hlen : ((wordsP w xs).map fun x : Nat => D.int .u64 x).length = nwP xs.length w := by simp
 simp only [o_71, vecD] at hpl hma ⊢
 generalize (wordsP w xs).getD (i * w / 64) 0 = x1 at *
 generalize (wordsP w xs).getD (i * w / 64 + 1) 0 = x2 at *
 generalize xs.getD i 0 = res at *
 generalize i * w / 64 = q at *
 generalize i * w % 64 = r at *
 generalize ((wordsP w xs).map fun x : Nat => D.int .u64 x) = L at *
 generalize nwP xs.length w = NW at *
 have e1 : (x1 : Int) / 2 ^ r = ((x1 / 2 ^ r : Nat) : Int) := by rw [Int.natCast_ediv, Int.natCast_pow]; rfl
 have e2 : IntKind.i64.wrap ((r : Int) + w) = ((r + w : Nat) : Int) := by rw [w64 (by omega) (by omega)]; omega
 have hx1r : x1 / 2 ^ r ≤ x1 := Nat.div_le_self _ _
 have hr64 : (r : Int) ≤ 64 := by omega
 by_cases hrw : r + w ≤ 64
 ·replace hp1 := hp1 hrw
  have e3 := o_ey (x1 / 2 ^ r) (2 ^ w - 1) (by omega) (by omega)
  rw [hp1] at e3
  generalize x1 / 2 ^ r = X1 at *
  generalize 2 ^ w - 1 = M at *
  have g3 : ¬ (64 : Int) < (r : Int) + w := by omega
  have g3' : ¬ (64 : Int) < (r + w : Nat) := by omega
  have g3'' : ¬ 64 < r + w := by omega
  generalize r + w = rw_ at *
  refine G1 (fs g1 g2) ?_; try with_reducible exact tt
  refine AW.cond rfl (fun h => ?_) (fun h => ?_)
  ·simp [g1, g2] at h
  refine G0B ?_; try with_reducible exact tt
  refine CallS.pu (hpl) (R0 ?_); try with_reducible exact tt
  repeat (first | refine AW.seq ?_ | refine AW.block ?_ | (refine AW.reg mix ?_; simp -implicitDefEqProofs [hg1, e1, e2, hr64, g3, g3', g3'']; try simp (disch := omega) only [w64, wu64]) | (refine need.of (by first | omega | kernel_rfl) ?_) | (refine AW.fin ?_; try simp -implicitDefEqProofs [hg1, e1, e2, hr64, g3, g3', g3'']))
  (try (simp -implicitDefEqProofs [hg1, e1, e2, hr64, g3, g3', g3'']; try simp (disch := omega) only [w64, wu64]))
  repeat (first | refine AW.seq ?_ | refine AW.block ?_ | (refine AW.reg mix ?_; simp -implicitDefEqProofs [hg1, e1, e2, hr64, g3, g3', g3'']; try simp (disch := omega) only [w64, wu64]) | (refine need.of (by first | omega | kernel_rfl) ?_) | (refine AW.fin ?_; try simp -implicitDefEqProofs [hg1, e1, e2, hr64, g3, g3', g3'']))
  refine AW.cond rfl (fun h => ?_) (fun h => ?_)
  ·simp [g3''] at h
  refine G0 ?_; try with_reducible exact tt
  refine CallS.pu (hma) (R1 e3 ?_); try with_reducible exact tt
 ·have hr2 : 64 < r + w := by omega
  replace hp2 := hp2 hr2
  replace hg2 := hg2 hr2
  replace hq2 := hq2 hr2
  have e4 : IntKind.i64.wrap (64 - (r : Int)) = ((64 - r : Nat) : Int) := by rw [w64 (by omega) (by omega)]; omega
  have e5 : IntKind.u64.wrap ((x2 : Int) * 2 ^ (64 - r)) = ((x2 * 2 ^ (64 - r) % 2 ^ 64 : Nat) : Int) := by
   rw [IntKind.wrap_u64, Int.natCast_emod, Int.natCast_mul, Int.natCast_pow]; rfl
  have hx2m : x2 * 2 ^ (64 - r) % 2 ^ 64 < 2 ^ 64 := Nat.mod_lt _ (by omega)
  have e6 := o_dl (x1 / 2 ^ r) (x2 * 2 ^ (64 - r) % 2 ^ 64) (by omega) (by omega)
  have hor := Nat.or_lt_two_pow (n := 64) (x := x1 / 2 ^ r) (y := x2 * 2 ^ (64 - r) % 2 ^ 64) (by omega) hx2m
  have e7 := o_ey (x1 / 2 ^ r ||| x2 * 2 ^ (64 - r) % 2 ^ 64) (2 ^ w - 1) (by omega) (by omega)
  rw [hp2] at e7
  have hs64 : ((64 - r : Nat) : Int) ≤ 64 := by omega
  generalize x1 / 2 ^ r = X1 at *
  generalize x2 * 2 ^ (64 - r) % 2 ^ 64 = X2 at *
  generalize X1 ||| X2 = X3 at *
  generalize 2 ^ w - 1 = M at *
  generalize 64 - r = s at *
  have g3 : (64 : Int) < (r + w : Nat) := by omega
  have e8 : IntKind.i64.wrap ((q : Int) + 1) = ((q + 1 : Nat) : Int) := by rw [w64 (by omega) (by omega)]; omega
  generalize r + w = rw_ at *
  obtain ⟨q1, hq1⟩ : ∃ q1, q1 = q + 1 := ⟨_, rfl⟩
  rw [← hq1] at hg2 hq2 e8
  refine G1 (fs g1 g2) ?_; try with_reducible exact tt
  refine AW.cond rfl (fun h => ?_) (fun h => ?_)
  ·simp [g1, g2] at h
  refine G0B ?_; try with_reducible exact tt
  refine CallS.pu (hpl) (R0 ?_); try with_reducible exact tt
  repeat (first | refine AW.seq ?_ | refine AW.block ?_ | (refine AW.reg mix ?_; simp -implicitDefEqProofs [hg1, e1, e2, hr64, g3, hr2]; try simp (disch := omega) only [w64, wu64]) | (refine need.of (by first | omega | kernel_rfl) ?_) | (refine AW.fin ?_; try simp -implicitDefEqProofs [hg1, e1, e2, hr64, g3, hr2]))
  (try (simp -implicitDefEqProofs [hg1, e1, e2, hr64, g3, hr2]; try simp (disch := omega) only [w64, wu64]))
  repeat (first | refine AW.seq ?_ | refine AW.block ?_ | (refine AW.reg mix ?_; simp -implicitDefEqProofs [hg1, e1, e2, hr64, g3, hr2]; try simp (disch := omega) only [w64, wu64]) | (refine need.of (by first | omega | kernel_rfl) ?_) | (refine AW.fin ?_; try simp -implicitDefEqProofs [hg1, e1, e2, hr64, g3, hr2]))
  refine AW.cond rfl (fun h => ?_) (fun h => ?_)
  ·repeat (first | refine AW.seq ?_ | refine AW.block ?_ | (refine AW.reg mix ?_; simp -implicitDefEqProofs [hg2, e4, e5, e6, e8, hs64]; try simp (disch := omega) only [w64, wu64]) | (refine need.of (by first | omega | kernel_rfl) ?_) | (refine AW.fin ?_; try simp -implicitDefEqProofs [hg2, e4, e5, e6, e8, hs64]))
   (try (simp -implicitDefEqProofs [hg2, e4, e5, e6, e8, hs64]; try simp (disch := omega) only [w64, wu64]))
   repeat (first | refine AW.seq ?_ | refine AW.block ?_ | (refine AW.reg mix ?_; simp -implicitDefEqProofs [hg2, e4, e5, e6, e8, hs64]; try simp (disch := omega) only [w64, wu64]) | (refine need.of (by first | omega | kernel_rfl) ?_) | (refine AW.fin ?_; try simp -implicitDefEqProofs [hg2, e4, e5, e6, e8, hs64]))
   refine CallS.pu (hma) (R1 e7 ?_); try with_reducible exact tt
  ·simp [hr2] at h
end
end Go.Proofs.Ytlelpbaeplcfiaa.Am
namespace Go.Proofs.Ytlelpbaeplcfiaa.Am
section
open Go.RowKit
set_option maxHeartbeats 1000000 in
theorem o_f6 (w : Nat) (xs : List Nat) (i v : Nat) (hi : i < xs.length) (hn : xs.length ≤ 256) (hw0 : 0 < w) (hw : w ≤ 32) (hv : v < 2 ^ w) : Eqn Try.prog o_86 [.p 0 0, .d (.int .i64 i), .d (.int .u64 v)] [vecO 1 xs.length w, vecB w xs] (.d (.int .i64 0)) [vecO 1 xs.length w, vecB w (xs.set i v)] := by
 refine Eqn.gen [0, 1] o_88 (by simp) (by simp) (by rfl) (by decide) (by simp) (by simp [vecO, vecB]) ?_
 have hpl := o_f1 w xs i hi hn hw
 have hma := fun N L n => o_f2 w N L n hw
 have g1 : ¬ (i : Int) < 0 := by omega
 have g2 : ¬ (xs.length : Int) ≤ i := by omega
 have e := Nat.div_add_mod (i * w) 64
 have hm64 : i * w % 64 < 64 := Nat.mod_lt _ (by omega)
 have hle : i * w + w ≤ xs.length * w := by rw [← Nat.succ_mul]; exact Nat.mul_le_mul_right w hi
 have hq : i * w / 64 < (wordsP w xs).length := by rw [o_ec]; unfold nwP; omega
 have hq2 : 64 < i * w % 64 + w → i * w / 64 + 1 < (wordsP w xs).length := by intro h; rw [o_ec]; unfold nwP; omega
 have hx1 := o_ee (w := w) (xs := xs) (i * w / 64)
 have hx2 := o_ee (w := w) (xs := xs) (i * w / 64 + 1)
 have hp1 := pset1 (xs := xs) (i := i) hw hw0 hi hv
 have hp2 := pset2 (xs := xs) (i := i) hw hi hv
 have hqb : i * w / 64 ≤ 1000 := by have : i * w ≤ 256 * 32 := Nat.mul_le_mul (by omega) hw; omega
 have hg1 := o_eu hq
 have hg2 := fun h => o_eu (hq2 h)
 have hs1 := o_ev (wordsP w xs) (i * w / 64) (setW1 w ((wordsP w xs).getD (i * w / 64) 0) v (i * w % 64))
 have hs2 := o_ev ((wordsP w xs).set (i * w / 64) (setW1 w ((wordsP w xs).getD (i * w / 64) 0) v (i * w % 64))) (i * w / 64 + 1) (setW2 w ((wordsP w xs).getD (i * w / 64 + 1) 0) v (64 - i * w % 64))
 have hg3 : 64 < i * w % 64 + w → ((u64s (wordsP w xs)).set (i * w / 64) (V.d (.int .u64 (setW1 w ((wordsP w xs).getD (i * w / 64) 0) v (i * w % 64) : Nat))))[i * w / 64 + 1]? = some (.d (.int .u64 ((wordsP w xs).getD (i * w / 64 + 1) 0 : Nat))) := by
  intro h
  rw [List.getElem?_set, if_neg (by omega)]
  exact hg2 h
 have h32 : 2 ^ w ≤ 2 ^ 32 := Nat.pow_le_pow_right (by omega) hw
 have hlen := o_et (wordsP w xs)
 have hnle : ¬ ((2 ^ w - 1 : Nat) : Int) < v := by omega
 have hnle' : ¬ (2 ^ w - 1 < v) := by omega
 have hlx : (xs.set i v).length = xs.length := List.length_set
 rw [o_ec] at hlen hq hq2
 -- the first word
 have w1 : IntKind.u64.wrap (((2 ^ w - 1 : Nat) : Int) * 2 ^ (i * w % 64)) = (((2 ^ w - 1) * 2 ^ (i * w % 64) % 2 ^ 64 : Nat) : Int) := by
  rw [IntKind.wrap_u64, Int.natCast_emod, Int.natCast_mul, Int.natCast_pow]; rfl
 have w2 : IntKind.u64.wrap ((v : Int) * 2 ^ (i * w % 64)) = ((v * 2 ^ (i * w % 64) % 2 ^ 64 : Nat) : Int) := by
  rw [IntKind.wrap_u64, Int.natCast_emod, Int.natCast_mul, Int.natCast_pow]; rfl
 have lt1 : (2 ^ w - 1) * 2 ^ (i * w % 64) % 2 ^ 64 < 2 ^ 64 := Nat.mod_lt _ (by omega)
 have lt2 : v * 2 ^ (i * w % 64) % 2 ^ 64 < 2 ^ 64 := Nat.mod_lt _ (by omega)
 have w3 := o_ez ((wordsP w xs).getD (i * w / 64) 0) ((2 ^ w - 1) * 2 ^ (i * w % 64) % 2 ^ 64) hx1 lt1
 have w4 := o_dl (andN ((wordsP w xs).getD (i * w / 64) 0) ((2 ^ w - 1) * 2 ^ (i * w % 64) % 2 ^ 64)) (v * 2 ^ (i * w % 64) % 2 ^ 64) (o_eo hx1) lt2
 have w5 : andN ((wordsP w xs).getD (i * w / 64) 0) ((2 ^ w - 1) * 2 ^ (i * w % 64) % 2 ^ 64) ||| v * 2 ^ (i * w % 64) % 2 ^ 64 = setW1 w ((wordsP w xs).getD (i * w / 64) 0) v (i * w % 64) := rfl
 rw [w5] at w4
 clear w5
 -- the second one
 have w6 : (((2 ^ w - 1 : Nat) : Int)) / 2 ^ (64 - i * w % 64) = (((2 ^ w - 1) / 2 ^ (64 - i * w % 64) : Nat) : Int) := by rw [Int.natCast_ediv, Int.natCast_pow]; rfl
 have w7 : (v : Int) / 2 ^ (64 - i * w % 64) = ((v / 2 ^ (64 - i * w % 64) : Nat) : Int) := by rw [Int.natCast_ediv, Int.natCast_pow]; rfl
 have lt3 : (2 ^ w - 1) / 2 ^ (64 - i * w % 64) < 2 ^ 64 := Nat.lt_of_le_of_lt (Nat.div_le_self _ _) (by omega)
 have lt4 : v / 2 ^ (64 - i * w % 64) < 2 ^ 64 := Nat.lt_of_le_of_lt (Nat.div_le_self _ _) (by omega)
 have w8 := o_ez ((wordsP w xs).getD (i * w / 64 + 1) 0) ((2 ^ w - 1) / 2 ^ (64 - i * w % 64)) hx2 lt3
 have w9 := o_dl (andN ((wordsP w xs).getD (i * w / 64 + 1) 0) ((2 ^ w - 1) / 2 ^ (64 - i * w % 64))) (v / 2 ^ (64 - i * w % 64)) (o_eo hx2) lt4
 have w10 : andN ((wordsP w xs).getD (i * w / 64 + 1) 0) ((2 ^ w - 1) / 2 ^ (64 - i * w % 64)) ||| v / 2 ^ (64 - i * w % 64) = setW2 w ((wordsP w xs).getD (i * w / 64 + 1) 0) v (64 - i * w % 64) := rfl
 rw [w10] at w9
 clear w10 lt1 lt2 lt3 lt4
 simp only [o_87, vecO, vecB, hlx]
 have hL0 : u64s (wordsP w xs) = ((wordsP w xs).map fun x : Nat => D.int .u64 x).map V.d := by simp [u64s]
 have htk : ((wordsP w xs).map fun x : Nat => D.int .u64 x).take (nwP xs.length w) = (wordsP w xs).map fun x : Nat => D.int .u64 x := List.take_of_length_le (by simp)
 simp only [vecD] at hpl
 generalize hL : ((wordsP w xs).map fun x : Nat => D.int .u64 x) = L0 at *
 generalize hW : wordsP w (xs.set i v) = W2 at *
 generalize andN ((wordsP w xs).getD (i * w / 64) 0) ((2 ^ w - 1) * 2 ^ (i * w % 64) % 2 ^ 64) = A1 at *
 generalize andN ((wordsP w xs).getD (i * w / 64 + 1) 0) ((2 ^ w - 1) / 2 ^ (64 - i * w % 64)) = A2 at *
 generalize setW1 w ((wordsP w xs).getD (i * w / 64) 0) v (i * w % 64) = Y1 at *
 generalize setW2 w ((wordsP w xs).getD (i * w / 64 + 1) 0) v (64 - i * w % 64) = Y2 at *
 generalize (wordsP w xs).getD (i * w / 64) 0 = x1 at *
 generalize (wordsP w xs).getD (i * w / 64 + 1) 0 = x2 at *
 generalize (2 ^ w - 1) * 2 ^ (i * w % 64) % 2 ^ 64 = M1 at *
 generalize v * 2 ^ (i * w % 64) % 2 ^ 64 = v1 at *
 generalize (2 ^ w - 1) / 2 ^ (64 - i * w % 64) = M2 at *
 generalize v / 2 ^ (64 - i * w % 64) = v2 at *
 generalize 2 ^ w - 1 = M at *
 have hs64 : 64 - i * w % 64 ≤ 64 := by omega
 have e4 : IntKind.i64.wrap (64 - ((i * w % 64 : Nat) : Int)) = ((64 - i * w % 64 : Nat) : Int) := by rw [w64 (by omega) (by omega)]; omega
 have e8 : IntKind.i64.wrap (((i * w / 64 : Nat) : Int) + 1) = ((i * w / 64 + 1 : Nat) : Int) := by rw [w64 (by omega) (by omega)]; omega
 have e2 : IntKind.i64.wrap (((i * w % 64 : Nat) : Int) + w) = ((i * w % 64 + w : Nat) : Int) := by rw [w64 (by omega) (by omega)]; omega
 generalize 64 - i * w % 64 = s at *
 generalize i * w / 64 + 1 = q1 at *
 generalize i * w / 64 = q at *
 generalize i * w % 64 + w = rw_ at *
 generalize i * w % 64 = r at *
 generalize wordsP w xs = WS at *
 generalize nwP xs.length w = NW at *
 have hr64 : (r : Int) ≤ 64 := by omega
 have hs64' : (s : Int) ≤ 64 := by omega
 refine G1 (fs g1 g2) ?_; try with_reducible exact tt
 refine AW.cond rfl (fun h => ?_) (fun h => ?_)
 ·simp [g1, g2] at h
 refine G0 ?_; try with_reducible exact tt
 refine CallS.ro [(1, 1, L0), (0, 1, [.sl NW L0, .int .i64 xs.length, .int .i64 w])] (hma NW L0 xs.length) (R1 (fs hnle hnle') ?_) (hok := by first | (simp [frzOK, frzH, hL0, htk]; done) | (simp [frzOK, frzH, hL0, htk]; rfl)); try with_reducible exact tt
 refine AW.cond rfl (fun h => ?_) (fun h => ?_)
 ·simp [hnle'] at h
 refine G0 ?_; try with_reducible exact tt
 refine CallS.ro [(1, 1, L0), (0, 1, _)] (hpl) (R0 ?_) (hok := by first | (simp [frzOK, frzH, hL0, htk]; done) | (simp [frzOK, frzH, hL0, htk]; rfl)); try with_reducible exact tt
 refine CallS.ro [(1, 1, L0), (0, 1, [.sl NW L0, .int .i64 xs.length, .int .i64 w])] (hma NW L0 xs.length) (R0 ?_) (hok := by first | (simp [frzOK, frzH, hL0, htk]; done) | (simp [frzOK, frzH, hL0, htk]; rfl)); try with_reducible exact tt
 repeat (first | refine AW.seq ?_ | refine AW.block ?_ | (refine AW.reg mix ?_; simp -implicitDefEqProofs [hg1, w1, w2, w3, w4, hr64, e2]; try simp (disch := omega) only [w64, wu64]) | (refine need.of (by first | omega | kernel_rfl) ?_) | (refine AW.fin ?_; try simp -implicitDefEqProofs [hg1, w1, w2, w3, w4, hr64, e2]))
 (try (simp -implicitDefEqProofs [hg1, w1, w2, w3, w4, hr64, e2]; try simp (disch := omega) only [w64, wu64]))
 repeat (first | refine AW.seq ?_ | refine AW.block ?_ | (refine AW.reg mix ?_; simp -implicitDefEqProofs [hg1, w1, w2, w3, w4, hr64, e2]; try simp (disch := omega) only [w64, wu64]) | (refine need.of (by first | omega | kernel_rfl) ?_) | (refine AW.fin ?_; try simp -implicitDefEqProofs [hg1, w1, w2, w3, w4, hr64, e2]))
 by_cases hrw : rw_ ≤ 64
 ·replace hp1 := hp1 hrw
  have g3 : ¬ 64 < rw_ := by omega
  have g3' : ¬ (64 : Int) < rw_ := by omega
  refine AW.cond rfl (fun h => ?_) (fun h => ?_)
  ·exfalso; simp at h; omega
  refine G0 ?_; try with_reducible exact tt
  exact Subs.of (by rw [o_ev, hp1])
 ·have g3 : 64 < rw_ := by omega
  replace hp2 := hp2 g3
  replace hg3 := hg3 g3
  replace hq2 := hq2 g3
  obtain ⟨L1, hL1, hL1l⟩ : ∃ L1 : List D, (u64s WS).set q (V.d (.int .u64 Y1)) = L1.map V.d ∧ L1.length = NW := ⟨(WS.set q Y1).map fun x : Nat => D.int .u64 x, by rw [o_ev]; simp [u64s, Function.comp_def], by simp; have := o_et WS; omega⟩
  have htk1 : L1.take NW = L1 := List.take_of_length_le (by omega)
  have hR : ((u64s WS).set q (V.d (.int .u64 Y1))).length = NW := by simp [hlen]
  refine AW.cond rfl (fun h => ?_) (fun h => ?_)
  ·refine G1 (fs e4 e8) ?_; try with_reducible exact tt
   refine CallS.ro [(1, 1, L1), (0, 1, [.sl NW L1, .int .i64 xs.length, .int .i64 w])] (hma NW L1 xs.length) (R0 ?_) (hok := by first | (simp [frzOK, frzH, hL1, htk1]; done) | (simp [frzOK, frzH, hL1, htk1]; rfl)); try with_reducible exact tt
   repeat (first | refine AW.seq ?_ | refine AW.block ?_ | (refine AW.reg mix ?_; simp -implicitDefEqProofs [hg3, w6, w7, w8, w9, hs64']; try simp (disch := omega) only [w64, wu64]) | (refine need.of (by first | omega | kernel_rfl) ?_) | (refine AW.fin ?_; try simp -implicitDefEqProofs [hg3, w6, w7, w8, w9, hs64']))
   (try (simp -implicitDefEqProofs [hg3, w6, w7, w8, w9, hs64']; try simp (disch := omega) only [w64, wu64]))
   repeat (first | refine AW.seq ?_ | refine AW.block ?_ | (refine AW.reg mix ?_; simp -implicitDefEqProofs [hg3, w6, w7, w8, w9, hs64']; try simp (disch := omega) only [w64, wu64]) | (refine need.of (by first | omega | kernel_rfl) ?_) | (refine AW.fin ?_; try simp -implicitDefEqProofs [hg3, w6, w7, w8, w9, hs64']))
   exact Subs.of (by rw [o_ev, o_ev, hp2])
  ·exfalso; simp at h; omega
end
end Go.Proofs.Ytlelpbaeplcfiaa.Am
namespace Go.Proofs.Ytlelpbaeplcfiaa.Am
section
open Go.RowKit
theorem o_f7 : ∀ (n : Nat) (bs : List Bool), bs.length = n → bitsW (numB bs 0) n = bs
 | 0, bs, h => by rw [List.eq_nil_of_length_eq_zero h]; rfl
 | n + 1, bs, h => by
  rcases List.eq_nil_or_concat bs with rfl | ⟨l, b, rfl⟩
  ·simp at h
  ·simp at h
   rw [List.concat_eq_append, o_ce, show numB [b] (numB l 0) = 2 * numB l 0 + b2n b from rfl, o_ci]
   have hb : (2 * numB l 0 + b2n b) / 2 = numB l 0 := by have := o_cd b; omega
   have hb2 : decide ((2 * numB l 0 + b2n b) % 2 = 1) = b := by cases b <;> simp [b2n] <;> omega
   rw [hb, hb2, o_f7 n l h]

def encN (k a b y t : Nat) (f : Bool) : Nat := numB (encR k a b y t f) 0
def wdR (k a b : Nat) : Nat := kwR k a b + twR k b + 1
theorem o_f8 (k a b y t : Nat) (f : Bool) : encN k a b y t f < 2 ^ wdR k a b := by have := o_cg (encR k a b y t f); rw [o_e5] at this; exact this
theorem o_f9 (k a b y t : Nat) (f : Bool) : bitsW (encN k a b y t f) (wdR k a b) = encR k a b y t f := o_f7 _ _ (o_e5 k a b y t f)
theorem o_fa {k a b : Nat} (h : GoodR k a b) : 0 < wdR k a b ∧ wdR k a b ≤ 16 := by
 have := (o_dz h); have := o_e0 h; unfold wdR; omega

theorem o_fb (bs : List Bool) (a n : Nat) (h : a + n ≤ bs.length) : ((bitsOf (bytesOf bs)).drop a).take n = (bs.drop a).take n := by
 have e := o_cx bs
 conv => rhs; rw [← e]
 rw [List.drop_take, List.take_take, Nat.min_eq_left (by omega)]
theorem o_fc {k a b y t : Nat} {f : Bool} (hg : GoodR k a b) (h : WellR k a b y t f) : readR (bytesOf (encR k a b y t f)) k a b 0 = ((y, t, f), 0, wdR k a b) := by
 have hl := o_e5 k a b y t f
 have hf := o_e1 hg h
 have h1 : numAt (bytesOf (encR k a b y t f)) 0 (kwR k a b) = y := by
  unfold numAt
  rw [o_fb _ _ _ (by omega), List.drop_zero]
  unfold encR
  rw [List.append_assoc, List.take_append_of_le_length (by simp), List.take_of_length_le (by simp), o_cj, Nat.mod_eq_of_lt hf.1]
 have h2 : numAt (bytesOf (encR k a b y t f)) (0 + kwR k a b) (twR k b) = t := by
  unfold numAt
  rw [o_fb _ _ _ (by omega), Nat.zero_add]
  unfold encR
  rw [List.append_assoc, List.drop_append_of_le_length (by simp), List.drop_of_length_le (by simp), List.nil_append, List.take_append_of_le_length (by simp), List.take_of_length_le (by simp), o_cj, Nat.mod_eq_of_lt hf.2]
 have h3 : (bitsOf (bytesOf (encR k a b y t f))).getD (0 + kwR k a b + twR k b) false = f := by
  have e := o_fb (encR k a b y t f) (kwR k a b + twR k b) 1 (by omega)
  have : ((encR k a b y t f).drop (kwR k a b + twR k b)).take 1 = [f] := by
   unfold encR
   rw [List.drop_append_of_le_length (by simp), List.drop_of_length_le (by simp)]; rfl
  rw [this] at e
  rw [Nat.zero_add, List.getD_eq_getElem?_getD]
  have e2 := congrArg (fun l => l[0]?) e
  simp only [List.getElem?_take, List.getElem?_drop] at e2
  simp at e2
  rw [e2]; rfl
 unfold readR
 rw [h1, h2, h3, if_neg (by rw [o_cm, hl]; omega), if_pos (o_dw.2 h)]
 simp [wdR]

abbrev ST := Nat × Nat × Bool
def encs (k a b : Nat) (l : List ST) : List Nat := l.map fun s => encN k a b s.1 s.2.1 s.2.2
def wells (k a b : Nat) (l : List ST) : Prop := ∀ s ∈ l, WellR k a b s.1 s.2.1 s.2.2
@[simp] theorem o_fd (k a b : Nat) (l : List ST) : (encs k a b l).length = l.length := by simp [encs]
theorem o_fe (k a b : Nat) (l : List ST) : smallP (wdR k a b) (encs k a b l) := by
 intro x hx
 obtain ⟨s, -, rfl⟩ := List.mem_map.1 hx
 exact o_f8 _ _ _ _ _ _
theorem o_ff {k a b : Nat} {l : List ST} {i : Nat} (h : i < l.length) : (encs k a b l).getD i 0 = encN k a b (l.getD i (0, 0, false)).1 (l.getD i (0, 0, false)).2.1 (l.getD i (0, 0, false)).2.2 := by simp [encs, h]
theorem o_fg (k a b : Nat) (l : List ST) (i : Nat) (s : ST) : (encs k a b l).set i (encN k a b s.1 s.2.1 s.2.2) = encs k a b (l.set i s) := by simp [encs, List.map_set]
theorem o_fh {k a b : Nat} {l : List ST} (h : wells k a b l) {i : Nat} (hi : i < l.length) : WellR k a b (l.getD i (0, 0, false)).1 (l.getD i (0, 0, false)).2.1 (l.getD i (0, 0, false)).2.2 := by
 rw [List.getD_eq_getElem?_getD, List.getElem?_eq_getElem hi]; exact h _ (List.getElem_mem hi)
def arrO (v : Nat) (k a b : Nat) : Ob := ⟨41, [.p v 0, .d (.int .i64 k), .d (.int .i64 a), .d (.int .i64 b)]⟩
def arrV (m : Nat) (k a b : Nat) (l : List ST) : Ob := vecO m l.length (wdR k a b)
def arrB (k a b : Nat) (l : List ST) : Ob := vecB (wdR k a b) (encs k a b l)

theorem o_fi (bs : List Bool) : smallB (bytesOf bs) := by
 intro x hx
 obtain ⟨i, -, rfl⟩ := List.mem_map.1 hx
 exact o_cl _ _

set_option maxHeartbeats 1000000 in
theorem o_fj {k a b : Nat} (l : List ST) (i : Nat) (h : GoodR k a b) (hw : wells k a b l) (hi : i < l.length) (hn : l.length ≤ 256) :
  Eqn Try.prog o_6f [.p 0 0, .d (.int .i64 i)] [arrO 1 k a b, arrV 2 k a b l, arrB k a b l] (.tup [.d (tsD (l.getD i (0, 0, false)).1 (l.getD i (0, 0, false)).2.1 (l.getD i (0, 0, false)).2.2), .d (.int .i64 0)]) [arrO 1 k a b, arrV 2 k a b l, arrB k a b l] := by
 refine Eqn.gen [0, 1, 2] o_6h (by simp) (by simp) (by rfl) (by decide) (by simp [tsD]) (by simp [arrO, arrV, arrB, vecO, vecB]) ?_
 obtain ⟨w0, w16⟩ := o_fa h
 have hg := o_f5 (wdR k a b) (encs k a b l) i (by simpa using hi) (by simpa using hn) w0 (by omega) (o_fe k a b l)
 have hwd := o_f4 (wdR k a b) (encs k a b l)
 rw [o_ff hi] at hg
 have hwi := o_fh hw hi
 generalize l.getD i (0, 0, false) = s at *
 obtain ⟨y, t, f⟩ := s
 simp only at hg hwi ⊢
 have hlt := o_f8 k a b y t f
 have h16 : 2 ^ wdR k a b ≤ 2 ^ 16 := Nat.pow_le_pow_right (by omega) w16
 have h3 := o_de (encN k a b y t f) (wdR k a b) w0 (by omega) hlt (by omega)
 rw [o_f9] at h3
 have hne : encR k a b y t f ≠ [] := by simp [encR]
 have hel := o_e5 k a b y t f
 have h4 := o_d9 (encR k a b y t f) hne (by rw [hel]; unfold wdR at w16; omega)
 have h5 := o_dh (bytesOf (encR k a b y t f)) (by rw [o_cm, hel]; unfold wdR at w16; omega)
 have h6 := o_e8 (bytesOf (encR k a b y t f)) (k := k) (a := a) (b := b) 0 h (o_fi _) (by rw [o_cm, hel]; unfold wdR at w16; omega) (Nat.zero_le _) _ rfl
 rw [o_fc h hwi] at h6
 have hwlen : ((wordsP (wdR k a b) (encs k a b l)).map fun x : Nat => D.int .u64 x).length = nwP l.length (wdR k a b) := by simp
 have htk : ((wordsP (wdR k a b) (encs k a b l)).map fun x : Nat => D.int .u64 x).take (nwP l.length (wdR k a b)) = (wordsP (wdR k a b) (encs k a b l)).map fun x : Nat => D.int .u64 x := List.take_of_length_le (by simp)
 have hL0 : u64s (wordsP (wdR k a b) (encs k a b l)) = ((wordsP (wdR k a b) (encs k a b l)).map fun x : Nat => D.int .u64 x).map V.d := by simp [u64s]
 have hB0 : u8s (bytesOf (encR k a b y t f)) = ((bytesOf (encR k a b y t f)).map fun x : Nat => D.int .u8 x).map V.d := by simp [u8s]
 have hBt : ((bytesOf (encR k a b y t f)).map fun x : Nat => D.int .u8 x).take (bytesOf (encR k a b y t f)).length = (bytesOf (encR k a b y t f)).map fun x : Nat => D.int .u8 x := List.take_of_length_le (by simp)
 have hBl : (bytesOf (encR k a b y t f)).length = ((encR k a b y t f).length + 7) / 8 := by simp
 simp only [o_6g, arrO, arrV, arrB, vecO, vecB, vecD, o_fd, tsD, parD, rdO, BY, wrO, wrB] at hg hwd h3 h4 h5 h6 ⊢
 generalize encs k a b l = es at *
 generalize wordsP (wdR k a b) es = WS at *
 generalize encR k a b y t f = bs at *
 generalize bytesOf bs = bytes at *
 rw [← hBl] at h3 h4
 generalize hLL : (WS.map fun x : Nat => D.int .u64 x) = L0 at *
 generalize hBB : (bytes.map fun x : Nat => D.int .u8 x) = LB at *
 generalize encN k a b y t f = N at *
 generalize wdR k a b = w at *
 generalize nwP l.length w = NW at *
 refine G0 ?_; try with_reducible exact tt
 refine CallS.ro [(2, 1, L0), (1, 1, [.sl NW L0, .int .i64 l.length, .int .i64 w])] (hg) (R0 ?_) (hok := by first | (simp [frzOK, frzH, hL0, htk]; done) | (simp [frzOK, frzH, hL0, htk]; rfl)); try with_reducible exact tt
 refine AW.cond rfl (fun h => ?_) (fun h => ?_)
 ·simp at h
 refine G0 ?_; try with_reducible exact tt
 refine CallS.ro [(2, 1, L0), (1, 1, [.sl NW L0, .int .i64 l.length, .int .i64 w])] (hwd) (R0 ?_) (hok := by first | (simp [frzOK, frzH, hL0, htk]; done) | (simp [frzOK, frzH, hL0, htk]; rfl)); try with_reducible exact tt
 refine CallS.g [4] (h3) (R0 ?_); try with_reducible exact tt
 refine CallS.g [4, 5] (h4) (R0 ?_); try with_reducible exact tt
 rw [hB0]
 have h5' : Eqn Try.prog o_5l [.d (.sl bytes.length (List.take (bytes.length * 1) LB))] [] (.p 0 0) [⟨79, [.d (.sl bytes.length LB), .d (.int .i64 0)]⟩] := by rw [Nat.mul_one, hBt]; simpa using h5
 refine CallS.gf 6 1 ⟨5, LB.map V.d⟩ LB [] (h5') (R0 ?_); try with_reducible exact tt
 simp at h6
 refine CallS.g [7] (h6) (R0 ?_); try with_reducible exact tt
end
end Go.Proofs.Ytlelpbaeplcfiaa.Am
namespace Go.Proofs.Ytlelpbaeplcfiaa.Am
section
open Go.RowKit
theorem zeroS {k a b : Nat} (h : GoodR k a b) : WellR k a b 0 0 false := by
 rcases h with ⟨rfl, h⟩ | ⟨hk, h⟩
 ·exact .inl ⟨rfl, Nat.zero_le _, Nat.zero_le _, by simp⟩
 ·exact .inr ⟨hk, rfl, Nat.zero_le _, by simp⟩
theorem o_fk (k a b : Nat) : encN k a b 0 0 false = 0 := by
 have h : ∀ w, bitsW 0 w = List.replicate w false := by
  intro w
  apply List.ext_getElem?
  intro i
  simp only [bitsW, List.getElem?_map, List.getElem?_replicate]
  by_cases h : i < w
  ·rw [List.getElem?_range h, if_pos h]; simp
  ·rw [List.getElem?_eq_none (by simp; omega), if_neg h]; rfl
 have hz : ∀ w n, numB (List.replicate w false) n = n * 2 ^ w := by
  intro w
  induction w with
  | zero => intro n; simp [numB]
  | succ w ih => intro n; rw [List.replicate_succ, numB, ih, Nat.pow_succ]; simp [b2n]; rw [Nat.mul_comm 2 n, Nat.mul_assoc, Nat.mul_comm 2]
 unfold encN encR
 rw [h, h, show [false] = List.replicate 1 false from rfl, o_ce, o_ce, hz, hz, hz]
 simp

set_option maxHeartbeats 1000000 in
theorem o_fl {k a b : Nat} (l : List ST) (i : Nat) (y t : Nat) (f : Bool) (h : GoodR k a b) (hw : wells k a b l) (hi : i < l.length) (hn : l.length ≤ 256) (hs : WellR k a b y t f) :
  Eqn Try.prog o_6u [.p 0 0, .d (.int .i64 i), .d (tsD y t f)] [arrO 1 k a b, arrV 2 k a b l, arrB k a b l] (.d (.int .i64 0)) [arrO 1 k a b, arrV 2 k a b l, arrB k a b (l.set i (y, t, f))] := by
 refine Eqn.gen [0, 1, 2] o_6w (by simp) (by simp) (by rfl) (by decide) (by simp) (by simp [arrO, arrV, arrB, vecO, vecB]) ?_
 obtain ⟨w0, w16⟩ := o_fa h
 have hg := o_f5 (wdR k a b) (encs k a b l) i (by simpa using hi) (by simpa using hn) w0 (by omega) (o_fe k a b l)
 generalize (encs k a b l).getD i 0 = was at hg
 have hwd := o_f4 (wdR k a b) (encs k a b l)
 have hlt := o_f8 k a b y t f
 have hps := o_f6 (wdR k a b) (encs k a b l) i (encN k a b y t f) (by simpa using hi) (by simpa using hn) w0 (by omega) hlt
 have hset := o_fg k a b l i (y, t, f)
 simp only at hset
 rw [hset] at hps
 have h16 : 2 ^ wdR k a b ≤ 2 ^ 16 := Nat.pow_le_pow_right (by omega) w16
 have h3 := o_e6 h hs
 have hne : encR k a b y t f ≠ [] := by simp [encR]
 have hel := o_e5 k a b y t f
 have h4 := o_d9 (encR k a b y t f) hne (by rw [hel]; unfold wdR at w16; omega)
 have h5 := o_dh (bytesOf (encR k a b y t f)) (by rw [o_cm, hel]; unfold wdR at w16; omega)
 have h6 := o_dq (bytesOf (encR k a b y t f)) 0 (wdR k a b) (o_fi _) (by omega) (by rw [o_cm, hel]; unfold wdR at w16; omega) (by rw [o_cm, hel]; unfold wdR; omega)
 have h7 : numAt (bytesOf (encR k a b y t f)) 0 (wdR k a b) = encN k a b y t f := by
  unfold numAt encN
  rw [o_fb _ _ _ (by rw [hel]; unfold wdR; omega), List.drop_zero, List.take_of_length_le (by rw [hel]; unfold wdR; omega)]
 rw [h7] at h6
 have htk : ((wordsP (wdR k a b) (encs k a b l)).map fun x : Nat => D.int .u64 x).take (nwP l.length (wdR k a b)) = (wordsP (wdR k a b) (encs k a b l)).map fun x : Nat => D.int .u64 x := List.take_of_length_le (by simp)
 have hL0 : u64s (wordsP (wdR k a b) (encs k a b l)) = ((wordsP (wdR k a b) (encs k a b l)).map fun x : Nat => D.int .u64 x).map V.d := by simp [u64s]
 have hB0 : u8s (bytesOf (encR k a b y t f)) = ((bytesOf (encR k a b y t f)).map fun x : Nat => D.int .u8 x).map V.d := by simp [u8s]
 have hBt : ((bytesOf (encR k a b y t f)).map fun x : Nat => D.int .u8 x).take (bytesOf (encR k a b y t f)).length = (bytesOf (encR k a b y t f)).map fun x : Nat => D.int .u8 x := List.take_of_length_le (by simp)
 have hBl : (bytesOf (encR k a b y t f)).length = ((encR k a b y t f).length + 7) / 8 := by simp
 simp only [o_6v, arrO, arrV, arrB, vecO, vecB, vecD, o_fd, List.length_set, tsD, parD, rdO, BY, wrO, wrB] at hg hwd hps h3 h4 h5 h6 ⊢
 generalize encs k a b (l.set i (y, t, f)) = es' at *
 generalize hWS' : wordsP (wdR k a b) es' = WS' at *
 generalize encs k a b l = es at *
 generalize hWS : wordsP (wdR k a b) es = WS at *
 generalize encR k a b y t f = bs at *
 generalize bytesOf bs = bytes at *
 rw [← hBl] at h3 h4
 generalize hLL : (WS.map fun x : Nat => D.int .u64 x) = L0 at *
 generalize hBB : (bytes.map fun x : Nat => D.int .u8 x) = LB at *
 generalize encN k a b y t f = N at *
 generalize wdR k a b = w at *
 generalize nwP l.length w = NW at *
 have h5' : Eqn Try.prog o_5l [.d (.sl bytes.length (List.take (bytes.length * 1) LB))] [] (.p 0 0) [⟨79, [.d (.sl bytes.length LB), .d (.int .i64 0)]⟩] := by rw [Nat.mul_one, hBt]; simpa using h5
 simp at h6
 refine G0 ?_; try with_reducible exact tt
 refine CallS.ro [(2, 1, L0), (1, 1, [.sl NW L0, .int .i64 l.length, .int .i64 w])] (hg) (R0 ?_) (hok := by first | (simp [frzOK, frzH, hL0, htk]; done) | (simp [frzOK, frzH, hL0, htk]; rfl)); try with_reducible exact tt
 refine AW.cond rfl (fun h => ?_) (fun h => ?_)
 ·simp at h
 refine G0 ?_; try with_reducible exact tt
 refine CallS.g [4] (h3) (R0 ?_); try with_reducible exact tt
 refine AW.cond rfl (fun h => ?_) (fun h => ?_)
 ·simp at h
 refine G0 ?_; try with_reducible exact tt
 refine CallS.g [4, 5] (h4) (R0 ?_); try with_reducible exact tt
 rw [hB0]
 refine CallS.gf 6 1 ⟨5, LB.map V.d⟩ LB [] (h5') (R0 ?_); try with_reducible exact tt
 refine CallS.ro [(2, 1, L0), (1, 1, [.sl NW L0, .int .i64 l.length, .int .i64 w])] (hwd) (R0 ?_) (hok := by first | (simp [frzOK, frzH, hL0, htk]; done) | (simp [frzOK, frzH, hL0, htk]; rfl)); try with_reducible exact tt
 refine CallS.g [7] (h6) (R0 ?_); try with_reducible exact tt
 refine CallS.g [1, 2] (hps) (R0 ?_); try with_reducible exact tt
end
end Go.Proofs.Ytlelpbaeplcfiaa.Am
namespace Go.Proofs.Ytlelpbaeplcfiaa.Am
section
open Go.RowKit
theorem o_fm {k a b : Nat} (h : GoodR k a b) (n : Nat) : wells k a b (List.replicate n (0, 0, false)) := by
 intro s hs
 rw [List.eq_of_mem_replicate hs]; exact zeroS h
theorem o_fn {k a b : Nat} {l : List ST} (h : wells k a b l) (i : Nat) {s : ST} (hs : WellR k a b s.1 s.2.1 s.2.2) : wells k a b (l.set i s) := by
 intro x hx
 rcases List.mem_or_eq_of_mem_set hx with hx | rfl
 ·exact h x hx
 ·exact hs

theorem o_fo {k a b : Nat} (n : Nat) (h : GoodR k a b) (h1 : 1 ≤ n) (hn : n ≤ 256) :
  Eqn Try.prog o_6l [.d (parD k a b), .d (.int .i64 n)] [] (.tup [.p 0 0, .d (.int .i64 0)]) [arrO 1 k a b, arrV 2 k a b (List.replicate n (0, 0, false)), arrB k a b (List.replicate n (0, 0, false))] := by
 refine Eqn.gen [3, 1, 2] o_6n (by simp) (by simp) (by rfl) (by decide) (by simp) (by simp [arrO, arrV, arrB, vecO, vecB]) ?_
 obtain ⟨w0, w16⟩ := o_fa h
 have hc := o_dv h
 have hb := o_e4 h
 have hp := o_f0 n (wdR k a b) hn w0 (by omega)
 have he : encs k a b (List.replicate n (0, 0, false)) = List.replicate n 0 := by simp [encs, o_fk]
 have g1 : ¬ (n : Int) < 1 := by omega
 have g2 : ¬ (256 : Int) < n := by omega
 rw [show kwR k a b + twR k b + 1 = wdR k a b from rfl] at hb
 simp only [o_6m, arrO, arrV, arrB, vecO, vecB, parD, he, List.length_replicate] at hc hb hp ⊢
 generalize wdR k a b = w at *
 generalize wordsP w (List.replicate n 0) = WS at *
 generalize nwP n w = NW at *
 refine G0 ?_; try with_reducible exact tt
 refine CallS.pu (hc) (R1 (fs g1 g2) ?_); try with_reducible exact tt
 refine AW.cond rfl (fun h => ?_) (fun h => ?_)
 ·simp at h
 refine G0 ?_; try with_reducible exact tt
 refine CallS.pu (hb) (R0 ?_); try with_reducible exact tt
 refine CallS.g [] (hp) (R0 ?_); try with_reducible exact tt
 refine AW.cond rfl (fun h => ?_) (fun h => ?_)
 ·simp at h
 refine G0 ?_; try with_reducible exact tt
end
end Go.Proofs.Ytlelpbaeplcfiaa.Am
namespace Go.Proofs.Ytlelpbaeplcfiaa.Am
section
open Go.RowKit
theorem o_fp (ws vs : List Nat) (hn : ws.length ≤ 4000000) (hm : vs.length ≤ 4000000) : Eqn Try.prog o_93 [.d (.sl ws.length (ws.map fun x : Nat => D.int .u64 x)), .d (.sl vs.length (vs.map fun x : Nat => D.int .u64 x))] [] (.d (.bool (decide (ws = vs)))) [] := by
 refine Eqn.pure o_95 Plain.ok ?_
 simp only [o_94]
 by_cases hl : ws.length = vs.length
 ·have hlp : (ws.length : Int) = vs.length := by omega
  refine G1 hlp ?_; try with_reducible exact tt
  refine AW.cond rfl (fun h => ?_) (fun h => ?_)
  ·simp [hlp] at h
  refine G1 hlp ?_; try with_reducible exact tt
  refine AW.loopT (α := Nat) 0 (fun s => [(13, .d (.int .i64 (s : Int)))]) (fun s => []) (fun s => s ≤ ws.length ∧ ws.take s = vs.take s) (fun s => ws.length - s) 0 ?_ ?_ ⟨Nat.zero_le _, by simp⟩ ?_ ?_ ?_
  ·simp
  ·simp
  ·simp
  ·simp
  rintro i ⟨hi, he⟩
  simp
  by_cases hi' : i < ws.length
  ·have h1 : (i : Int) < ws.length := by omega
   have h1v : (i : Int) < vs.length := by omega
   have hiv : i < vs.length := by omega
   have ew : IntKind.i64.wrap ((i : Int) + 1) = ((i + 1 : Nat) : Int) := by rw [w64 (by omega) (by omega)]; omega
   refine G1 (fs hi' (fs h1 (fs h1v (fs hiv hlp)))) ?_; try with_reducible exact tt
   refine AW.cond rfl (fun h => ?_) (fun h => ?_)
   ·clear h
    refine G1 (fs hi' (fs h1 (fs h1v (fs hiv hlp)))) ?_; try with_reducible exact tt
    refine AW.cond rfl (fun h => ?_) (fun h => ?_)
    ·refine G0 ?_; try with_reducible exact tt
     refine Sub1.bool ?_
     rw [eq_comm, decide_eq_false_iff_not]
     rintro rfl
     simp at h
    ·have hgg : ws[i] = vs[i] := by simp at h; exact Int.ofNat.inj h
     repeat (first | refine AW.seq ?_ | refine AW.block ?_ | (refine AW.reg mix ?_; simp -implicitDefEqProofs [ew]; try simp (disch := omega) only [w64, wu64]) | (refine need.of (by first | omega | kernel_rfl) ?_) | (refine AW.fin ?_; try simp -implicitDefEqProofs [ew]))
     (try (simp -implicitDefEqProofs [ew]; try simp (disch := omega) only [w64, wu64]))
     repeat (first | refine AW.seq ?_ | refine AW.block ?_ | (refine AW.reg mix ?_; simp -implicitDefEqProofs [ew]; try simp (disch := omega) only [w64, wu64]) | (refine need.of (by first | omega | kernel_rfl) ?_) | (refine AW.fin ?_; try simp -implicitDefEqProofs [ew]))
     refine ⟨i + 1, ⟨by omega, ?_⟩, by omega, by simp⟩
     rw [List.take_add_one, List.take_add_one, he, List.getElem?_eq_getElem hi', List.getElem?_eq_getElem hiv, hgg]
   ·simp [hi', h1, h1v, hiv, hlp] at h
  ·have hi2 : i = ws.length := by omega
   subst hi2
   refine G1 hlp ?_; try with_reducible exact tt
   refine AW.cond rfl (fun h => ?_) (fun h => ?_)
   ·simp [hlp] at h
   refine AW.exit ?_
   (try (simp -implicitDefEqProofs; try simp (disch := omega) only [w64, wu64]))
   refine G1 hlp ?_; try with_reducible exact tt
   refine Sub1.bool ?_
   rw [eq_comm, decide_eq_true_iff]
   rwa [List.take_length, hl, List.take_length] at he
 ·have hlp : ¬ (ws.length : Int) = vs.length := by omega
  refine G1 hlp ?_; try with_reducible exact tt
  refine AW.cond rfl (fun h => ?_) (fun h => ?_)
  ·refine G0 ?_; try with_reducible exact tt
   refine Sub1.bool ?_
   rw [eq_comm, decide_eq_false_iff_not]
   rintro rfl
   exact hl rfl
  ·simp [hlp] at h

theorem o_fq (w v : Nat) (xs ys : List Nat) (h1 : nwP xs.length w ≤ 4000000) (h2 : nwP ys.length v ≤ 4000000) :
  Eqn Try.prog o_7f [.ia (vecD w xs) 0, .ia (vecD v ys) 0] [] (.d (.bool (decide (xs.length = ys.length ∧ w = v ∧ wordsP w xs = wordsP v ys)))) [] := by
 refine Eqn.pure o_7h Plain.ok ?_
 have he := o_fp (wordsP w xs) (wordsP v ys) (by simpa using h1) (by simpa using h2)
 simp only [o_ec] at he
 simp only [o_7g, vecD]
 generalize wordsP w xs = ws at *
 generalize wordsP v ys = vs at *
 by_cases hl : xs.length = ys.length
 ·have hlp : (xs.length : Int) = ys.length := by omega
  by_cases hw : w = v
  ·subst hw
   refine G1 hlp ?_; try with_reducible exact tt
   refine CallS.pu (he) (R1 hlp ?_); try with_reducible exact tt
   exact Sub1.bool (by simp [hl])
  ·have hwp : ¬ (w : Int) = v := by omega
   refine G1 (fs hlp (fs hw hwp)) ?_; try with_reducible exact tt
 ·have hlp : ¬ (xs.length : Int) = ys.length := by omega
  refine G1 (fs hlp hl) ?_; try with_reducible exact tt

theorem o_fr {k a b : Nat} {s r : ST} (hg : GoodR k a b) (hs : WellR k a b s.1 s.2.1 s.2.2) (hr : WellR k a b r.1 r.2.1 r.2.2) (h : encN k a b s.1 s.2.1 s.2.2 = encN k a b r.1 r.2.1 r.2.2) : s = r := by
 have h1 := o_f9 k a b s.1 s.2.1 s.2.2
 rw [h, o_f9] at h1
 have h2 := o_fc hg hs
 rw [← h1, o_fc hg hr] at h2
 have := congrArg Prod.fst h2
 simp only at this
 exact this.symm
theorem o_fs {k a b : Nat} (hg : GoodR k a b) : ∀ {l m : List ST}, wells k a b l → wells k a b m → encs k a b l = encs k a b m → l = m
 | [], [], _, _, _ => rfl
 | [], _ :: _, _, _, h => by simp [encs] at h
 | _ :: _, [], _, _, h => by simp [encs] at h
 | s :: l, r :: m, h1, h2, h => by
  simp only [encs, List.map_cons, List.cons.injEq] at h
  rw [o_fr hg (h1 s (by simp)) (h2 r (by simp)) h.1, o_fs hg (fun x hx => h1 x (by simp [hx])) (fun x hx => h2 x (by simp [hx])) h.2]
theorem o_ft {w : Nat} {xs ys : List Nat} (hw0 : 0 < w) (hl : xs.length = ys.length) (hx : smallP w xs) (hy : smallP w ys) (h : wordsP w xs = wordsP w ys) : xs = ys := by
 have hb : ∀ k, k < xs.length * w → bitX w xs k = bitX w ys k := by
  intro k hk
  have hj : k / 64 < nwP xs.length w := by unfold nwP; omega
  have h1 := o_ef (w := w) (xs := xs) hj (Nat.mod_lt k (by omega : 0 < 64))
  have h2 := o_ef (w := w) (xs := ys) (by rw [← hl]; exact hj) (Nat.mod_lt k (by omega : 0 < 64))
  rw [Nat.div_add_mod] at h1 h2
  rw [← h1, ← h2, h]
 apply List.ext_getElem? 
 intro i
 by_cases hi : i < xs.length
 ·have e : xs.getD i 0 = ys.getD i 0 := by
   apply Nat.eq_of_testBit_eq
   intro b
   by_cases hbw : b < w
   ·rw [← o_eg hbw, ← o_eg hbw]
    apply hb
    calc i * w + b < i * w + w := by omega
     _ = (i + 1) * w := by rw [Nat.succ_mul]
     _ ≤ xs.length * w := Nat.mul_le_mul_right _ hi
   ·rw [Nat.testBit_lt_two_pow (Nat.lt_of_lt_of_le (o_ei hx i) (Nat.pow_le_pow_right (by omega) (by omega))), Nat.testBit_lt_two_pow (Nat.lt_of_lt_of_le (o_ei hy i) (Nat.pow_le_pow_right (by omega) (by omega)))]
  simp only [List.getD_eq_getElem?_getD, List.getElem?_eq_getElem hi, List.getElem?_eq_getElem (hl ▸ hi), Option.getD_some] at e
  rw [List.getElem?_eq_getElem hi, List.getElem?_eq_getElem (hl ▸ hi), e]
 ·rw [List.getElem?_eq_none (by omega), List.getElem?_eq_none (by omega)]
theorem o_fu {k a b : Nat} {l m : List ST} (hg : GoodR k a b) (h1 : wells k a b l) (h2 : wells k a b m) : (l.length = m.length ∧ wordsP (wdR k a b) (encs k a b l) = wordsP (wdR k a b) (encs k a b m)) ↔ l = m := by
 constructor
 ·rintro ⟨hl, h⟩
  exact o_fs hg h1 h2 (o_ft (o_fa hg).1 (by simpa using hl) (o_fe _ _ _ _) (o_fe _ _ _ _) h)
 ·rintro rfl; exact ⟨rfl, rfl⟩

theorem o_fv {k a b n : Nat} (hg : GoodR k a b) (h1 : 1 ≤ n) (hn : n ≤ 256) : 0 < nwP n (wdR k a b) ∧ nwP n (wdR k a b) ≤ 4000000 := by
 obtain ⟨w0, w16⟩ := o_fa hg
 unfold nwP
 have h1' : n * 1 ≤ n * wdR k a b := Nat.mul_le_mul_left _ w0
 have h2' : n * wdR k a b ≤ 256 * 16 := Nat.mul_le_mul hn w16
 omega

theorem o_fw (n s : Nat) (ds : List D) (l : List D) : V.frzs n s ds (l.map V.d) = l.map V.d := by
 rw [o_3u]; simp [V.frz]
theorem o_fx {k a b : Nat} (l m : List ST) (hg : GoodR k a b) (h1 : wells k a b l) (h2 : wells k a b m) (hl : 1 ≤ l.length) (hln : l.length ≤ 256) (hm : 1 ≤ m.length) (hmn : m.length ≤ 256) :
  Eqn Try.prog o_66 [.p 0 0, .p 3 0] [arrO 1 k a b, arrV 2 k a b l, arrB k a b l, arrO 4 k a b, arrV 5 k a b m, arrB k a b m] (.d (.bool (decide (l = m)))) [arrO 1 k a b, arrV 2 k a b l, arrB k a b l, arrO 4 k a b, arrV 5 k a b m, arrB k a b m] := by
 refine Eqn.gen [0, 1, 2, 3, 4, 5] o_68 (by simp) (by simp) (by rfl) (by decide) (by simp) (by simp [arrO, arrV, arrB, vecO, vecB]) ?_
 have hs := o_fq (wdR k a b) (wdR k a b) (encs k a b l) (encs k a b m) (by simpa using (o_fv hg hl hln).2) (by simpa using (o_fv hg hm hmn).2)
 have he : (decide ((encs k a b l).length = (encs k a b m).length ∧ wdR k a b = wdR k a b ∧ wordsP (wdR k a b) (encs k a b l) = wordsP (wdR k a b) (encs k a b m))) = decide (l = m) := by
  rw [decide_eq_decide, ← o_fu hg h1 h2]; simp
 rw [he] at hs
 have hwlen : ((wordsP (wdR k a b) (encs k a b l)).map fun x : Nat => D.int .u64 x).length = nwP l.length (wdR k a b) := by simp
 have htk : ((wordsP (wdR k a b) (encs k a b l)).map fun x : Nat => D.int .u64 x).take (nwP l.length (wdR k a b)) = (wordsP (wdR k a b) (encs k a b l)).map fun x : Nat => D.int .u64 x := List.take_of_length_le (by simp)
 have hL0 : u64s (wordsP (wdR k a b) (encs k a b l)) = ((wordsP (wdR k a b) (encs k a b l)).map fun x : Nat => D.int .u64 x).map V.d := by simp [u64s]
 have htkm : ((wordsP (wdR k a b) (encs k a b m)).map fun x : Nat => D.int .u64 x).take (nwP m.length (wdR k a b)) = (wordsP (wdR k a b) (encs k a b m)).map fun x : Nat => D.int .u64 x := List.take_of_length_le (by simp)
 have hL0m : u64s (wordsP (wdR k a b) (encs k a b m)) = ((wordsP (wdR k a b) (encs k a b m)).map fun x : Nat => D.int .u64 x).map V.d := by simp [u64s]
 simp only [o_67, arrO, arrV, arrB, vecO, vecB, vecD, o_fd] at hs ⊢
 clear he h1 h2
 generalize decide (l = m) = eq at *
 generalize hn1 : l.length = n1 at *
 generalize hn2 : m.length = n2 at *
 generalize encs k a b m = em at *
 generalize encs k a b l = el at *
 generalize wordsP (wdR k a b) em = wm at *
 generalize wordsP (wdR k a b) el = wl at *
 generalize hLL : (wl.map fun x : Nat => D.int .u64 x) = L0 at *
 generalize hMM : (wm.map fun x : Nat => D.int .u64 x) = M0 at *
 generalize wdR k a b = w at *
 generalize nwP n1 w = NW at *
 generalize nwP n2 w = MW at *
 refine G0 ?_; try with_reducible exact tt
 refine CallS.ro [(2, 1, L0), (1, 1, [.sl NW L0, .int .i64 n1, .int .i64 w]), (5, 1, M0), (4, 1, [.sl MW M0, .int .i64 n2, .int .i64 w])] (hs) (R0 ?_) (hok := by first | (simp [frzOK, frzH, hL0, htk, hL0m, htkm, o_fw]; done) | (simp [frzOK, frzH, hL0, htk, hL0m, htkm, o_fw]; rfl)); try with_reducible exact tt
end
end Go.Proofs.Ytlelpbaeplcfiaa.Am
namespace Go.Proofs.Ytlelpbaeplcfiaa.Am
section
open Go.RowKit
end
end Go.Proofs.Ytlelpbaeplcfiaa.Am
namespace Go.Proofs.Ytlelpbaeplcfiaa.Am
section
def exitQ {β : Type} (id N : Nat) (T1 : β → List V) (H1 : β → List (Option Ob)) (R2 : β → Prop) (Q : Exit → List V → List (Option Ob) → Prop) : Exit → List V → List (Option Ob) → Prop
 | .exit j, T, H => if j = id then ∃ b, R2 b ∧ wk N T (T1 b) ∧ wkH N H (H1 b) else Q (.exit j) T H
 | .normal, _, _ => False
 | e, T, H => Q e T H
attribute [simp] exitQ
end
end Go.Proofs.Ytlelpbaeplcfiaa.Am
namespace Go.Proofs.Ytlelpbaeplcfiaa.Am
section
open Go.RowKit
def SmallR (k a b : Nat) : Prop := k = 4 ∧ 1 ≤ a ∧ a ≤ 8 ∧ b ≤ 3 ∨ k ≠ 4 ∧ GoodS k a b
theorem o_fy {k a b : Nat} (h : SmallR k a b) : GoodR k a b := by
 rcases h with ⟨rfl, h1, h2, h3⟩ | ⟨hk, h⟩
 ·exact .inl ⟨rfl, h1, by omega, by omega⟩
 ·exact .inr ⟨hk, o_cb h⟩

theorem o_fz (k a b : Int) : Eqn Try.prog o_6o [.d (parD k a b)] [] (.d (parD k a b)) [] := by
 refine Eqn.pure o_6q Plain.ok ?_
 simp only [o_6p, parD]
 refine G0 ?_; try with_reducible exact tt
theorem o_g0 (y t : Int) (f : Bool) : Eqn Try.prog o_6i [.d (.agg [.int .i64 y, .int .i64 t, .bool f])] [] (.d (.agg [.int .i64 y, .int .i64 t, .bool f])) [] := by
 refine Eqn.pure o_6k Plain.ok ?_
 simp only [o_6j]
 refine G0 ?_; try with_reducible exact tt

theorem o_g1 (y : Int) (m n : Nat) (hm : m ≤ 1000000) (hn : n ≤ 1000000) : ∃ (N Y : Nat), bits BinOp.and IntKind.i64 y (m : Int) = N ∧ IntKind.i64.wrap ((n : Int) + 1) = (n : Int) + 1 ∧ (N : Int).tmod ((n : Int) + 1) = Y ∧ Y ≤ n := by
 obtain ⟨N, h1, h2, h3⟩ := o_c9 y m (by omega)
 have hY : N % (n + 1) ≤ n := by have := Nat.mod_lt N (show 0 < n + 1 by omega); omega
 refine ⟨N, N % (n + 1), h1, w64 (by omega) (by omega), ?_, hY⟩
 rw [Int.tmod_eq_emod_of_nonneg (by omega)]; norm_cast

theorem o_g2 {k a b : Nat} (h : SmallR k a b) (y t : Int) (f : Bool) : ∃ (Y T : Nat) (F : Bool), WellR k a b Y T F ∧ Eqn Try.prog o_6x [.d (parD k a b), .d (.agg [.int .i64 y, .int .i64 t, .bool f])] [] (.d (tsD Y T F)) [] := by
 rcases h with ⟨rfl, h1, h2, h3⟩ | ⟨hk, h⟩
 ·obtain ⟨N1, Y, a1, a2, a3, a4⟩ := o_g1 y 7 a (by omega) (by omega)
  obtain ⟨N2, T, b1, b2, b3, b4⟩ := o_g1 t 3 b (by omega) (by omega)
  replace a1 : bits BinOp.and IntKind.i64 y 7 = N1 := a1
  replace b1 : bits BinOp.and IntKind.i64 t 3 = N2 := b1
  refine ⟨Y, T, f && (T == b), .inl ⟨rfl, a4, b4, by simp⟩, ?_⟩
  refine Eqn.pure o_6z Plain.ok ?_
  have hF : ((T : Int) == (b : Int)) = (T == b) := by rw [Bool.eq_iff_iff]; simp; omega
  simp only [o_6y, parD, tsD]
  generalize (T == b) = F at *
  cases f with
  | true =>
   refine G0B ?_; try with_reducible exact tt
   refine AW.cond rfl (fun h => ?_) (fun h => ?_)
   ·refine G1B (fs a1 (fs a2 (fs a3 (fs b1 (fs b2 (fs b3 hF)))))) ?_; try with_reducible exact tt
   ·simp at h
  | false =>
   refine G0B ?_; try with_reducible exact tt
   refine AW.cond rfl (fun h => ?_) (fun h => ?_)
   ·refine G1B (fs a1 (fs a2 (fs a3 (fs b1 (fs b2 (fs b3 hF)))))) ?_; try with_reducible exact tt
   ·simp at h
 ·have hW : 2 ^ b - 1 ≤ 15 := by have := Nat.pow_le_pow_right (n := 2) (by omega) h.2.2; omega
  have hb2 : 0 < 2 ^ b := Nat.two_pow_pos b
  obtain ⟨N1, Y, a1, a2, a3, a4⟩ := o_g1 y 15 (2 ^ b - 1) (by omega) (by omega)
  replace a1 : bits BinOp.and IntKind.i64 y 15 = N1 := a1
  refine ⟨Y, 0, f && (Y == 2 ^ b - 1), .inr ⟨hk, rfl, a4, by simp⟩, ?_⟩
  refine Eqn.pure o_6z Plain.ok ?_
  have hF : ((Y : Int) == ((2 ^ b - 1 : Nat) : Int)) = (Y == 2 ^ b - 1) := by rw [Bool.eq_iff_iff]; simp only [beq_iff_eq]; omega
  have e0 : (2 : Int) ^ b = (2 ^ b : Nat) := by rw [Int.natCast_pow]; rfl
  have hk' : ¬ (k : Int) = 4 := by omega
  have hb64 : b ≤ 64 := by have := h.2.2; omega
  simp only [o_6y, parD, tsD]
  generalize (Y == 2 ^ b - 1) = F at *
  generalize 2 ^ b = S at *
  have e3 : IntKind.i64.wrap (S : Int) = S := w64 (by omega) (by omega)
  have e4 : IntKind.i64.wrap ((S : Int) - 1) = ((S - 1 : Nat) : Int) := by rw [w64 (by omega) (by omega)]; omega
  generalize S - 1 = S1 at *
  cases f with
  | true =>
   refine G1B (fs hk hk') ?_; try with_reducible exact tt
   refine AW.cond rfl (fun h => ?_) (fun h => ?_)
   ·simp [hk'] at h
   ·refine G1B (fs a1 (fs a2 (fs a3 (fs e0 (fs e3 (fs e4 (fs hF hb64))))))) ?_; try with_reducible exact tt
  | false =>
   refine G1B (fs hk hk') ?_; try with_reducible exact tt
   refine AW.cond rfl (fun h => ?_) (fun h => ?_)
   ·simp [hk'] at h
   ·refine G1B (fs a1 (fs a2 (fs a3 (fs e0 (fs e3 (fs e4 (fs hF hb64))))))) ?_; try with_reducible exact tt

theorem o_g3 (k a b : Int) : ∃ K A B : Nat, SmallR K A B ∧ ∀ (y t : Int) (f : Bool), ∃ (Y T : Nat) (F : Bool), WellR K A B Y T F ∧ Eqn Try.prog o_56 [.d (parD k a b), .d (.agg [.int .i64 y, .int .i64 t, .bool f])] [] (.tup [.d (parD K A B), .d (tsD Y T F)]) [] := by
 obtain ⟨e1, K, e2, hK, e3⟩ := o_c8 k 4 (by omega) (by omega)
 obtain ⟨B1, B2, b1, b2, b3, b4⟩ := o_g1 b 255 3 (by omega) (by omega)
 replace b1 : bits BinOp.and IntKind.i64 b 255 = B1 := b1
 replace b3 : (B1 : Int).tmod 4 = B2 := b3
 obtain ⟨B3, d1, d2, d3⟩ := o_c9 b 3 (by omega)
 obtain ⟨A1, a1, a2, a3⟩ := o_c9 a 3 (by omega)
 obtain ⟨A2, a4, a5, a6⟩ := o_c9 a 1 (by omega)
 obtain ⟨A3, a7, a8, a9⟩ := o_c9 a 7 (by omega)
 replace a1 : bits BinOp.and IntKind.i64 a 3 = A1 := a1
 replace a4 : bits BinOp.and IntKind.i64 a 1 = A2 := a4
 replace a7 : bits BinOp.and IntKind.i64 a 7 = A3 := a7
 replace d1 : bits BinOp.and IntKind.i64 b 3 = B3 := d1
 have e4 : IntKind.i64.wrap (1 + (B2 : Int)) = ((1 + B2 : Nat) : Int) := by rw [w64 (by omega) (by omega)]; omega
 have hK' : K = 0 ∨ K = 1 ∨ K = 2 ∨ K = 3 := by omega
 rcases hK' with rfl | rfl | rfl | rfl
 ·refine ⟨1, 1 + A1, 1 + B2, .inr ⟨by omega, by omega, by omega, by omega⟩, fun y t f => ?_⟩
  obtain ⟨Y, T, F, hw, hE⟩ := o_g2 (k := 1) (a := 1 + A1) (b := 1 + B2) (.inr ⟨by omega, by omega, by omega, by omega⟩) y t f
  refine ⟨Y, T, F, hw, ?_⟩
  refine Eqn.pure o_58 Plain.ok ?_
  simp only [o_57, parD, tsD] at hE ⊢
  generalize 1 + A1 = XA at *
  generalize 1 + B2 = XB at *
  refine G1B (fs e1 (fs e2 e3)) ?_; try with_reducible exact tt
  refine AW.cond rfl (fun h => ?_) (fun h => ?_)
  ·refine G1B (fs b1 (fs b3 (fs e4 (fs a1 a3)))) ?_; try with_reducible exact tt
   simp at hE
   refine CallS.pu (hE) (R0B ?_); try with_reducible exact tt
  ·simp at h
 ·refine ⟨2, A2, 1 + B2, .inr ⟨by omega, by omega, by omega, by omega⟩, fun y t f => ?_⟩
  obtain ⟨Y, T, F, hw, hE⟩ := o_g2 (k := 2) (a := A2) (b := 1 + B2) (.inr ⟨by omega, by omega, by omega, by omega⟩) y t f
  refine ⟨Y, T, F, hw, ?_⟩
  refine Eqn.pure o_58 Plain.ok ?_
  simp only [o_57, parD, tsD] at hE ⊢
  generalize 1 + B2 = XB at *
  refine G1B (fs e1 (fs e2 e3)) ?_; try with_reducible exact tt
  refine AW.cond rfl (fun h => ?_) (fun h => ?_)
  ·simp at h
  refine G0B ?_; try with_reducible exact tt
  refine AW.cond rfl (fun h => ?_) (fun h => ?_)
  ·refine G1B (fs b1 (fs b3 (fs e4 a4))) ?_; try with_reducible exact tt
   simp at hE
   refine CallS.pu (hE) (R0B ?_); try with_reducible exact tt
  ·simp at h
 ·refine ⟨3, 1 + A2, 1 + B2, .inr ⟨by omega, by omega, by omega, by omega⟩, fun y t f => ?_⟩
  obtain ⟨Y, T, F, hw, hE⟩ := o_g2 (k := 3) (a := 1 + A2) (b := 1 + B2) (.inr ⟨by omega, by omega, by omega, by omega⟩) y t f
  refine ⟨Y, T, F, hw, ?_⟩
  refine Eqn.pure o_58 Plain.ok ?_
  simp only [o_57, parD, tsD] at hE ⊢
  generalize 1 + A2 = XA at *
  generalize 1 + B2 = XB at *
  refine G1B (fs e1 (fs e2 e3)) ?_; try with_reducible exact tt
  refine AW.cond rfl (fun h => ?_) (fun h => ?_)
  ·simp at h
  refine G0B ?_; try with_reducible exact tt
  refine AW.cond rfl (fun h => ?_) (fun h => ?_)
  ·simp at h
  refine G0B ?_; try with_reducible exact tt
  refine AW.cond rfl (fun h => ?_) (fun h => ?_)
  ·refine G1B (fs b1 (fs b3 (fs e4 (fs a4 a6)))) ?_; try with_reducible exact tt
   simp at hE
   refine CallS.pu (hE) (R0B ?_); try with_reducible exact tt
  ·simp at h
 ·refine ⟨4, 1 + A3, B3, .inl ⟨rfl, by omega, by omega, by omega⟩, fun y t f => ?_⟩
  obtain ⟨Y, T, F, hw, hE⟩ := o_g2 (k := 4) (a := 1 + A3) (b := B3) (.inl ⟨rfl, by omega, by omega, by omega⟩) y t f
  refine ⟨Y, T, F, hw, ?_⟩
  refine Eqn.pure o_58 Plain.ok ?_
  simp only [o_57, parD, tsD] at hE ⊢
  generalize 1 + A3 = XA at *
  refine G1B (fs e1 (fs e2 e3)) ?_; try with_reducible exact tt
  refine AW.cond rfl (fun h => ?_) (fun h => ?_)
  ·simp at h
  refine G0B ?_; try with_reducible exact tt
  refine AW.cond rfl (fun h => ?_) (fun h => ?_)
  ·simp at h
  refine G0B ?_; try with_reducible exact tt
  refine AW.cond rfl (fun h => ?_) (fun h => ?_)
  ·simp at h
  ·refine G1B (fs d1 (fs a7 a9)) ?_; try with_reducible exact tt
   simp at hE
   refine CallS.pu (hE) (R0B ?_); try with_reducible exact tt
end
end Go.Proofs.Ytlelpbaeplcfiaa.Am
namespace Go.Proofs.Ytlelpbaeplcfiaa.Am
section
open Go.RowKit
end
end Go.Proofs.Ytlelpbaeplcfiaa.Am
namespace Go.Proofs.Ytlelpbaeplcfiaa.Am
section
open Go.RowKit
end
end Go.Proofs.Ytlelpbaeplcfiaa.Am
namespace Go.Proofs.Ytlelpbaeplcfiaa.Am
section
open Go.RowKit

theorem o_g4 {P : Program} {f : FuncId} {c : C} {rs : List RV} {nt : Nat} (hf : fnOf P f = some (c, rs, nt, false)) (vs : Array Value) (w : World) : (callFunc f vs).run P w = .ok (.enter f vs) w := by
 unfold fnOf at hf
 split at hf
 ·rename_i fn hfn
  split at hf
  ·rename_i b hb
   simp only [Option.some.injEq, Prod.mk.injEq] at hf
   obtain ⟨h1, h2, h3, h4⟩ := hf
   have h1 : ¬ fn.name = "runtime.NumGoroutine" := by simpa using h4
   simp [callFunc, hfn, h1, hb]
  ·cases hf
 ·cases hf

abbrev memW (W : World) : Mem := ⟨fun _ => none, fun b => b < W.heap.size, W⟩

theorem o_g5 {m : Mem} (h : ∀ g, tab g = none) : Tabs m := fun g l hg => by rw [h g] at hg; cases hg
theorem o_g6 {P : Program} {f : FuncId} {args : List V} {c : C} {rs : List RV} {nt : Nat} (hf : fnOf P f = some (c, rs, nt, false)) (E : Eqn P f args [] (.d (.bool true)) []) {W : World} {vs : List Value} (h : V.reps (memW W) args vs) (ht : Tabs (memW W)) :
  Calls P f vs.toArray W (fun e W' => e = .returned (.bool true) ∧ Same W W') := by
 rcases E.run (memW W) vs ⟨fun b h => h, fun n b h => (by cases h), ht⟩ h (by simp) (fun n i b h => by simp at h) (fun _ _ => rfl) with ⟨v, h1, _⟩ | ⟨_, h2⟩
 ·rw [o_g4 hf] at h1; cases h1
 ·refine h2.mono ?_
  rintro e w' ⟨v, m', rfl, rfl, hE⟩
  have hv := hE.rep
  rw [V.rep_d] at hv
  unfold D.rep at hv
  subst hv
  exact ⟨rfl, hE.le.os, hE.le.tape, hE.le.output, hE.le.size, fun k hk _ => hE.le.imm k hk⟩

theorem law_walk {P : Program} {f : FuncId} {args : List V} {c : C} {rs : List RV} {nt : Nat} (hf : fnOf P f = some (c, rs, nt, false)) (E : Eqn P f args [] (.d (.bool true)) []) {W : World} {vs : List Value} (h : V.reps (memW W) args vs) (ht : Tabs (memW W) := by exact o_g5 fun _ => rfl) :
  Calls P f vs.toArray W (fun e W' => e = .returned (.bool true) ∧ Same W W') := o_g6 hf E h ht

theorem reps_of {I : Nat → Prop} {w : World} {α : Type} (f : α → D) (g : α → Value) (h : ∀ a, D.rep I w (f a) (g a)) : ∀ l : List α, D.reps I w (l.map f) (l.map g)
 | [] => by simp
 | a :: l => by
  rw [List.map_cons, List.map_cons, D.reps_cons]
  exact ⟨h a, reps_of f g h l⟩

theorem o_g7 {W : World} {l : List D} {vs : List Value} (h1 : ∀ u ∈ vs, u.oneCell' = true) (h : D.reps (fun b => b < W.heap.size) W l vs) : V.rep (memW W) (.d (.agg l)) (.agg vs.toArray) := by
 rw [V.rep_d]
 unfold D.rep
 exact ⟨vs, rfl, h1, h⟩
end
end Go.Proofs.Ytlelpbaeplcfiaa.Am
namespace Go.Proofs.Ytlelpbaeplcfiaa.Am
section
open Go.RowKit
def actM (cs : List Bool) (k a b y t : Nat) (f : Bool) (z u : Nat) (g : Bool) (n : Nat) (m : Bool) (p : Nat) (d : Bool) : TR := if m then mergeRM cs k a b y t f z u g p d else addRM cs k a b n y t f p d
end
end Go.Proofs.Ytlelpbaeplcfiaa.Am
namespace Go.Proofs.Ytlelpbaeplcfiaa.Am
section
open Go.RowKit
def aloneV (l : List ST) : List V := l.flatMap fun s => [.d (.int .i64 s.1), .d (.int .i64 s.2.1), .d (.bool s.2.2)]
@[simp] theorem o_g8 (n : Nat) (l : List ST) : V.lowl n (aloneV l) = true := by induction l <;> simp_all [aloneV]

def actsL (l : List (Int × Int)) : List D := l.flatMap fun a => [.int .i64 a.1, .int .i64 a.2]
end
end Go.Proofs.Ytlelpbaeplcfiaa.Am
namespace Go.Proofs.Ytlelpbaeplcfiaa.Am
section
open Go.RowKit
theorem o_g9 (w : Nat) (xs : List Nat) : Eqn Try.prog o_5u [.ia (vecD w xs) 0] [] (.d (.int .i64 xs.length)) [] := by
 refine Eqn.pure o_5w Plain.ok ?_
 simp only [o_5v, vecD]
 refine G0 ?_; try with_reducible exact tt

def stL (l : List ST) : List D := l.flatMap fun s => [.int .i64 s.1, .int .i64 s.2.1, .bool s.2.2]
theorem o_ga (l : List ST) : (stL l).length = 3 * l.length := by induction l <;> simp_all [stL]; omega
theorem o_gb : ∀ (l : List ST) (i : Nat), (stL l).drop (i * 3) = stL (l.drop i)
 | l, 0 => by simp
 | [], i + 1 => by simp [stL]
 | s :: l, i + 1 => by
  have := o_gb l i
  rw [show (i + 1) * 3 = 3 + i * 3 by omega, List.drop_succ_cons, ← this, ← List.drop_drop]
  rfl
theorem o_gc (l : List ST) (i : Nat) (h : i < l.length) : ((stL l).drop (i * 3)).take 3 = [.int .i64 (l.getD i (0, 0, false)).1, .int .i64 (l.getD i (0, 0, false)).2.1, .bool (l.getD i (0, 0, false)).2.2] := by
 rw [o_gb, List.drop_eq_getElem_cons h, List.getD_eq_getElem?_getD, List.getElem?_eq_getElem h]
 rfl
end
end Go.Proofs.Ytlelpbaeplcfiaa.Am
namespace Go.Proofs.Ytlelpbaeplcfiaa.Am
section
open Go.RowKit
abbrev RawS := Int × Int × Bool
def rawL (l : List RawS) : List D := l.flatMap fun s => [.int .i64 s.1, .int .i64 s.2.1, .bool s.2.2]
theorem o_gd (l : List RawS) : (rawL l).length = 3 * l.length := by induction l <;> simp_all [rawL]; omega
theorem o_ge : ∀ (l : List RawS) (i : Nat), (rawL l).drop (i * 3) = rawL (l.drop i)
 | l, 0 => by simp
 | [], i + 1 => by simp [rawL]
 | s :: l, i + 1 => by
  have := o_ge l i
  rw [show (i + 1) * 3 = 3 + i * 3 by omega, List.drop_succ_cons, ← this, ← List.drop_drop]
  rfl
theorem o_gf (l : List RawS) (i : Nat) (h : i < l.length) : ((rawL l).drop (i * 3)).take 3 = [.int .i64 (l.getD i (0, 0, false)).1, .int .i64 (l.getD i (0, 0, false)).2.1, .bool (l.getD i (0, 0, false)).2.2] := by
 rw [o_ge, List.drop_eq_getElem_cons h, List.getD_eq_getElem?_getD, List.getElem?_eq_getElem h]
 rfl
abbrev stV (l : List ST) : List V := (stL l).map .d
theorem o_gg (l : List ST) (s : ST) : stV l ++ [.d (.int .i64 s.1), .d (.int .i64 s.2.1), .d (.bool s.2.2)] = stV (l ++ [s]) := by simp [stV, stL]
theorem o_gh (l : List ST) : (stV l).length = 3 * l.length := by simp [stV, o_ga]
@[simp] theorem o_gi (n : Nat) (l : List ST) : V.lowl n (stV l) = true := o_4n n _
@[simp] theorem o_gj (θ : Nat → Nat) (l : List ST) : V.rens θ (stV l) = stV l := o_4m θ _

def upTo (l : List ST) (i : Nat) : List ST := l.take i ++ List.replicate (l.length - i) (0, 0, false)
theorem o_gk {l : List ST} {i : Nat} (h : i ≤ l.length) : (upTo l i).length = l.length := by simp [upTo]; omega
theorem o_gl (l : List ST) : upTo l l.length = l := by simp [upTo]
theorem o_gm {l : List ST} {i : Nat} (h : i < l.length) : (upTo l i).set i (l.getD i (0, 0, false)) = upTo l (i + 1) := by
 unfold upTo
 have e : l.length - i = (l.length - (i + 1)) + 1 := by omega
 have e2 : l.take (i + 1) = l.take i ++ [l[i]] := by rw [List.take_add_one, List.getElem?_eq_getElem h]; rfl
 have e3 : l.getD i (0, 0, false) = l[i] := by rw [List.getD_eq_getElem?_getD, List.getElem?_eq_getElem h]; rfl
 rw [e, List.replicate_succ, List.set_append_right _ _ (by rw [List.length_take]; omega), List.length_take, Nat.min_eq_left (by omega), Nat.sub_self, List.set_cons_zero, e2, e3, List.append_assoc]
 rfl
theorem o_gn {k a b : Nat} {l : List ST} (hg : GoodR k a b) (h : wells k a b l) (i : Nat) : wells k a b (upTo l i) := by
 intro s hs
 rcases List.mem_append.1 hs with hs | hs
 ·exact h s (List.mem_of_mem_take hs)
 ·rw [List.eq_of_mem_replicate hs]; exact zeroS hg

set_option maxHeartbeats 2000000 in
theorem o_go {k a b : Nat} (hsr : SmallR k a b) (L : List RawS) (hL : L.length ≤ 9223372036854775807) : ∃ l : List ST, 1 ≤ l.length ∧ l.length ≤ 8 ∧ wells k a b l ∧
  Eqn Try.prog o_59 [.d (parD k a b), .d (.sl L.length (rawL L))] [] (.tup [.p 0 0, .d (.sl l.length (stL l)), .d (.bool true)]) [arrO 1 k a b, arrV 2 k a b l, arrB k a b l] := by
 have hg := o_fy hsr
 obtain ⟨g, hgw⟩ : ∃ g : RawS → ST, ∀ x : RawS, WellR k a b (g x).1 (g x).2.1 (g x).2.2 ∧ Eqn Try.prog o_6x [.d (parD k a b), .d (.agg [.int .i64 x.1, .int .i64 x.2.1, .bool x.2.2])] [] (.d (tsD (g x).1 (g x).2.1 (g x).2.2)) [] := by
  have h := fun x : RawS => o_g2 hsr x.1 x.2.1 x.2.2
  refine ⟨fun x => (Classical.choose (h x), Classical.choose (Classical.choose_spec (h x)), Classical.choose (Classical.choose_spec (Classical.choose_spec (h x)))), fun x => Classical.choose_spec (Classical.choose_spec (Classical.choose_spec (h x)))⟩
 obtain ⟨N, hN, hN8⟩ : ∃ N, N = min L.length 8 ∧ N ≤ 8 := ⟨_, rfl, by omega⟩
 obtain ⟨M, hM⟩ : ∃ M : List ST, M = (L.take N).map g := ⟨_, rfl⟩
 have hMl : M.length = N := by rw [hM, List.length_map, List.length_take]; omega
 have hMi : ∀ i, i < N → M.take (i + 1) = M.take i ++ [g (L.getD i (0, 0, false))] := by
  intro i hi
  rw [List.take_add_one, hM, List.getElem?_map, List.getElem?_take, if_pos hi, List.getElem?_eq_getElem (by omega), List.getD_eq_getElem?_getD, List.getElem?_eq_getElem (by omega)]
  rfl
 have hMw : wells k a b M := by
  intro s hs
  rw [hM] at hs
  obtain ⟨x, -, rfl⟩ := List.mem_map.1 hs
  exact (hgw x).1
 obtain ⟨l, hl⟩ : ∃ l : List ST, l = if N = 0 then [(0, 0, false)] else M := ⟨_, rfl⟩
 have hl1 : 1 ≤ l.length ∧ l.length ≤ 8 := by
  rw [hl]; split
  ·simp
  ·omega
 have hlw : wells k a b l := by
  rw [hl]; split
  ·exact o_fm hg 1
  ·exact hMw
 refine ⟨l, hl1.1, hl1.2, hlw, ?_⟩
 refine Eqn.gen [2, 3, 4] o_5b (by simp) (by simp) (by rfl) (by decide) (by simp) (by simp [arrO, arrV, arrB, vecO, vecB]) ?_
 have hrl := o_gd L
 simp only [o_5a, parD]
 rcases Nat.eq_zero_or_pos N with hN0 | hN0
 ·have hL0 : L = [] := List.eq_nil_of_length_eq_zero (by omega)
  subst hL0
  rw [if_pos hN0] at hl
  refine G0B ?_; try with_reducible exact tt
  refine AW.loopT (α := Unit) 1 (fun s => [(7, .d .nilsl), (8, .d (.int .i64 0))]) (fun s => []) (fun s => True) (fun s => 0) () ?_ ?_ trivial ?_ ?_ ?_
  ·simp
  ·simp
  ·simp
  ·simp
  rintro - -
  simp
  refine G0B ?_; try with_reducible exact tt
  refine AW.cond rfl (fun h => ?_) (fun h => ?_)
  ·simp at h
  refine AW.exit ?_
  (try (simp -implicitDefEqProofs [-Bool.exists_bool]; try simp (disch := omega) only [w64, wu64]))
  refine G0B ?_; try with_reducible exact tt
  refine AW.cond rfl (fun h => ?_) (fun h => ?_)
  ·repeat (first | refine AW.seq ?_ | refine AW.block ?_)
   refine AW.reg mix ?_
   (simp -implicitDefEqProofs [-Bool.exists_bool]; try simp (disch := omega) only [w64, wu64])
   try refine need.of (by first | omega | kernel_rfl) ?_
   have hcell : [V.d (.int .i64 0), V.d (.int .i64 0), V.d (.bool false)] = stV l := by rw [hl]; rfl
   have hl1' : l.length = 1 := by rw [hl]; rfl
   have e1 : V.own 1 3 1 = V.own 1 3 l.length := by rw [hl1']
   rw [hcell, e1]
   clear e1 hcell hl hl1'
   have hown := o_fz k a b
   have hnew := o_fo l.length hg hl1.1 (by omega)
   have hsl := o_ga l
   obtain ⟨n, hn⟩ : ∃ n, n = l.length := ⟨_, rfl⟩
   simp only [arrO, arrV, arrB, vecO, vecB, List.length_replicate, o_fd, parD] at hown hnew ⊢
   refine AW.freeze 1 3 ⟨43, stV l⟩ (stL l) (by rfl) rfl ?_
   have htk : (stL l).take (l.length * 3) = stL l := List.take_of_length_le (by omega)
   simp [htk]
   refine G0B ?_; try with_reducible exact tt
   refine CallS.pu (hown) (R0B ?_); try with_reducible exact tt
   refine CallS.g [] (hnew) (R0B ?_); try with_reducible exact tt
   refine AW.cond rfl (fun h => ?_) (fun h => ?_)
   ·simp at h
   refine G0B ?_; try with_reducible exact tt
   refine AW.loopT (α := Nat) 5 (fun i => [(54, .d (.int .i64 (i : Int)))]) (fun i => [(4, ⟨71, u64s (wordsP (wdR k a b) (encs k a b (upTo l i)))⟩)]) (fun i => i ≤ l.length) (fun i => l.length - i) 0 ?_ ?_ (Nat.zero_le _) ?_ ?_ ?_
   ·simp
   ·simp
   ·simp
   ·simp [upTo]
   rintro i hi
   simp
   by_cases hi' : i < l.length
   ·have h1 : (i : Int) < l.length := by omega
    have hlg := o_gc l i hi'
    have hset := fun y t f => o_fl (upTo l i) i y t f hg (o_gn hg hlw i) (by rw [o_gk hi]; exact hi') (by rw [o_gk hi]; omega)
    have hwi := o_fh hlw hi'
    have hup := o_gm hi'
    generalize l.getD i (0, 0, false) = s at hlg hwi hup
    obtain ⟨y, t, f⟩ := s
    replace hset := hset y t f hwi
    rw [hup] at hset
    have ew : IntKind.i64.wrap ((i : Int) + 1) = ((i + 1 : Nat) : Int) := by rw [w64 (by omega) (by omega)]; omega
    simp only [arrO, arrV, arrB, vecO, vecB, o_fd, o_gk hi, o_gk (show i + 1 ≤ l.length from hi'), parD, tsD] at hset hlg
    refine G1B (fs hi' (fs h1 hsl)) ?_; try with_reducible exact tt
    refine AW.cond rfl (fun h => ?_) (fun h => ?_)
    ·clear h
     refine G1B (fs hi' (fs h1 (fs hsl hlg))) ?_; try with_reducible exact tt
     refine CallS.g [2, 3, 4] (hset) (R1B (fs hi' (fs h1 (fs hsl hlg))) ?_); try with_reducible exact tt
     refine AW.cond rfl (fun h => ?_) (fun h => ?_)
     ·simp at h
     repeat (first | refine AW.seq ?_ | refine AW.block ?_ | (refine AW.reg mix ?_; simp -implicitDefEqProofs [ew, -Bool.exists_bool]; try simp (disch := omega) only [w64, wu64]) | (refine need.of (by first | omega | kernel_rfl) ?_) | (refine AW.fin ?_; try simp -implicitDefEqProofs [ew, -Bool.exists_bool]))
     (try (simp -implicitDefEqProofs [ew, -Bool.exists_bool]; try simp (disch := omega) only [w64, wu64]))
     repeat (first | refine AW.seq ?_ | refine AW.block ?_ | (refine AW.reg mix ?_; simp -implicitDefEqProofs [ew, -Bool.exists_bool]; try simp (disch := omega) only [w64, wu64]) | (refine need.of (by first | omega | kernel_rfl) ?_) | (refine AW.fin ?_; try simp -implicitDefEqProofs [ew, -Bool.exists_bool]))
     exact ⟨i + 1, by omega, by omega, by simp⟩
    ·simp [hi', h1] at h
   ·have h2 : i = l.length := by omega
    subst h2
    rw [o_gl]
    refine G1B hsl ?_; try with_reducible exact tt
    refine AW.cond rfl (fun h => ?_) (fun h => ?_)
    ·simp at h
    refine AW.exit ?_
    (try (simp -implicitDefEqProofs [-Bool.exists_bool]; try simp (disch := omega) only [w64, wu64]))
    repeat (first | refine AW.seq ?_ | refine AW.block ?_ | (refine AW.reg mix ?_; simp -implicitDefEqProofs [arrO, arrV, arrB, vecO, vecB, -Bool.exists_bool]; try simp (disch := omega) only [w64, wu64]) | (refine need.of (by first | omega | kernel_rfl) ?_) | (refine AW.fin ?_; try simp -implicitDefEqProofs [arrO, arrV, arrB, vecO, vecB, -Bool.exists_bool]))
  ·simp at h
 ·rw [if_neg (by omega)] at hl
  subst hl
  refine G0B ?_; try with_reducible exact tt
  refine AW.loopG (α := Nat) (fun i => [.d (.agg [.int .i64 k, .int .i64 a, .int .i64 b]), .d (.sl L.length (rawL L)), .p 0 0, .junk, .d .nilp, .d .nilsl, .d (.bool false), if i = 0 then .d .nilsl else .own 1 3 i, .d (.int .i64 (i : Int))] ++ List.replicate 59 .junk) (fun i => if i = 0 then [some ⟨23, [.d (.int .i64 k), .d (.int .i64 a), .d (.int .i64 b)]⟩] else [some ⟨23, [.d (.int .i64 k), .d (.int .i64 a), .d (.int .i64 b)]⟩, some ⟨43, stV (l.take i)⟩]) (fun i => i ≤ N) (fun i => N - i) 0 ?_ (Nat.zero_le _) ?_ ?_ ?_
  ·intro i hi; split <;> simp
  ·simp
  ·simp
  rintro i hi
  by_cases hiN : i < N
  ·have hw := (hgw (L.getD i (0, 0, false))).2
   have hLi : i < L.length := by omega
   have hrg := o_gf L i hLi
   have hst := hMi i hiN
   have g1 : (i : Int) < L.length := by omega
   have g2 : (i : Int) < 8 := by omega
   have g3 : i < 8 := by omega
   have ew : IntKind.i64.wrap ((i : Int) + 1) = ((i + 1 : Nat) : Int) := by rw [w64 (by omega) (by omega)]; omega
   generalize L.getD i (0, 0, false) = x at hw hrg hst
   obtain ⟨x1, x2, x3⟩ := x
   simp only at hw hrg
   generalize g (x1, x2, x3) = s at hw hst
   obtain ⟨s1, s2, s3⟩ := s
   have hls := o_g0 s1 s2 s3
   simp only [parD, tsD] at hw hls
   by_cases hi0 : i = 0
   ·subst hi0
    rw [if_pos rfl, if_pos rfl]
    simp at hst
    simp
    refine G1B (fs hLi (fs g1 (fs g2 g3))) ?_; try with_reducible exact tt
    refine AW.cond rfl (fun h => ?_) (fun h => ?_)
    ·clear h
     simp at hrg
     refine G1B (fs hLi (fs g1 (fs g2 (fs g3 (fs hrl hrg))))) ?_; try with_reducible exact tt
     refine CallS.pu (hw) (R0B ?_); try with_reducible exact tt
     refine CallS.pu (hls) (R1B ew ?_); try with_reducible exact tt
     refine ⟨1, 1, 2, by simp, by omega, by omega, ?_, ?_⟩
     ·simp [swT, swH, sw, Ob.sw, V.ren, V.rens]
     ·simp [swT, swH, sw, Ob.sw, V.ren, V.rens, hst, stV, stL]
    ·simp [hLi, g1] at h
   ·rw [if_neg hi0, if_neg hi0]
    have hltk : (l.take i).length = i := by rw [List.length_take]; omega
    have hlc : (stV (l.take i)).length = i * 3 := by rw [o_gh, hltk]; omega
    have hsn := o_gg (l.take i) (s1, s2, s3)
    rw [← hst] at hsn
    generalize hX : stV (l.take i) = X at *
    simp
    refine G1B (fs hLi (fs g1 (fs g2 g3))) ?_; try with_reducible exact tt
    refine AW.cond rfl (fun h => ?_) (fun h => ?_)
    ·clear h
     refine G1B (fs hLi (fs g1 (fs g2 (fs g3 (fs hrl hrg))))) ?_; try with_reducible exact tt
     refine CallS.pu (hw) (R0B ?_); try with_reducible exact tt
     refine CallS.pu (hls) (R1B ew ?_); try with_reducible exact tt
     refine ⟨i + 1, 1, 3, by simp, by omega, by omega, ?_, ?_⟩
     ·simp [swT, swH, sw, Ob.sw, V.ren, V.rens]
     ·rw [if_neg (by omega)]
      simp [swT, swH, sw, Ob.sw, V.ren, V.rens, hsn]
    ·simp [hLi, g1] at h
  ·have h2 : i = N := by omega
   subst h2
   have hlt : l.take i = l := List.take_of_length_le (by omega)
   subst hMl
   have hiz : l.length ≠ 0 := by omega
   rw [if_neg hiz, if_neg hiz, hlt]
   by_cases g1 : (l.length : Int) < L.length
   ·have g1n : l.length < L.length := by omega
    have g2 : ¬ (l.length : Int) < 8 := by omega
    have g2n : ¬ l.length < 8 := by omega
    refine G1B (fs g1 (fs g1n (fs g2 g2n))) ?_; try with_reducible exact tt
    refine AW.cond rfl (fun h => ?_) (fun h => ?_)
    ·simp [g2, g2n] at h
    refine AW.exit ?_
    (try (simp -implicitDefEqProofs [-Bool.exists_bool]; try simp (disch := omega) only [w64, wu64]))
    refine G1B hiz ?_; try with_reducible exact tt
    refine AW.cond rfl (fun h => ?_) (fun h => ?_)
    ·simp [hiz] at h
    refine AW.skip ?_
    simp
    clear g1 g1n g2 g2n
    have hown := o_fz k a b
    have hnew := o_fo l.length hg hl1.1 (by omega)
    have hsl := o_ga l
    obtain ⟨n, hn⟩ : ∃ n, n = l.length := ⟨_, rfl⟩
    simp only [arrO, arrV, arrB, vecO, vecB, List.length_replicate, o_fd, parD] at hown hnew ⊢
    refine AW.freeze 1 3 ⟨43, stV l⟩ (stL l) (by rfl) rfl ?_
    have htk : (stL l).take (l.length * 3) = stL l := List.take_of_length_le (by omega)
    simp [htk]
    refine G0B ?_; try with_reducible exact tt
    refine CallS.pu (hown) (R0B ?_); try with_reducible exact tt
    refine CallS.g [] (hnew) (R0B ?_); try with_reducible exact tt
    refine AW.cond rfl (fun h => ?_) (fun h => ?_)
    ·simp at h
    refine G0B ?_; try with_reducible exact tt
    refine AW.loopT (α := Nat) 5 (fun i => [(54, .d (.int .i64 (i : Int)))]) (fun i => [(4, ⟨71, u64s (wordsP (wdR k a b) (encs k a b (upTo l i)))⟩)]) (fun i => i ≤ l.length) (fun i => l.length - i) 0 ?_ ?_ (Nat.zero_le _) ?_ ?_ ?_
    ·simp
    ·simp
    ·simp
    ·simp [upTo]
    rintro i hi
    simp
    by_cases hi' : i < l.length
    ·have h1 : (i : Int) < l.length := by omega
     have hlg := o_gc l i hi'
     have hset := fun y t f => o_fl (upTo l i) i y t f hg (o_gn hg hlw i) (by rw [o_gk hi]; exact hi') (by rw [o_gk hi]; omega)
     have hwi := o_fh hlw hi'
     have hup := o_gm hi'
     generalize l.getD i (0, 0, false) = s at hlg hwi hup
     obtain ⟨y, t, f⟩ := s
     replace hset := hset y t f hwi
     rw [hup] at hset
     have ew : IntKind.i64.wrap ((i : Int) + 1) = ((i + 1 : Nat) : Int) := by rw [w64 (by omega) (by omega)]; omega
     simp only [arrO, arrV, arrB, vecO, vecB, o_fd, o_gk hi, o_gk (show i + 1 ≤ l.length from hi'), parD, tsD] at hset hlg
     refine G1B (fs hi' (fs h1 hsl)) ?_; try with_reducible exact tt
     refine AW.cond rfl (fun h => ?_) (fun h => ?_)
     ·clear h
      refine G1B (fs hi' (fs h1 (fs hsl hlg))) ?_; try with_reducible exact tt
      refine CallS.g [2, 3, 4] (hset) (R1B (fs hi' (fs h1 (fs hsl hlg))) ?_); try with_reducible exact tt
      refine AW.cond rfl (fun h => ?_) (fun h => ?_)
      ·simp at h
      repeat (first | refine AW.seq ?_ | refine AW.block ?_ | (refine AW.reg mix ?_; simp -implicitDefEqProofs [ew, -Bool.exists_bool]; try simp (disch := omega) only [w64, wu64]) | (refine need.of (by first | omega | kernel_rfl) ?_) | (refine AW.fin ?_; try simp -implicitDefEqProofs [ew, -Bool.exists_bool]))
      (try (simp -implicitDefEqProofs [ew, -Bool.exists_bool]; try simp (disch := omega) only [w64, wu64]))
      repeat (first | refine AW.seq ?_ | refine AW.block ?_ | (refine AW.reg mix ?_; simp -implicitDefEqProofs [ew, -Bool.exists_bool]; try simp (disch := omega) only [w64, wu64]) | (refine need.of (by first | omega | kernel_rfl) ?_) | (refine AW.fin ?_; try simp -implicitDefEqProofs [ew, -Bool.exists_bool]))
      exact ⟨i + 1, by omega, by omega, by simp⟩
     ·simp [hi', h1] at h
    ·have h2 : i = l.length := by omega
     subst h2
     rw [o_gl]
     refine G1B hsl ?_; try with_reducible exact tt
     refine AW.cond rfl (fun h => ?_) (fun h => ?_)
     ·simp at h
     refine AW.exit ?_
     (try (simp -implicitDefEqProofs [-Bool.exists_bool]; try simp (disch := omega) only [w64, wu64]))
     repeat (first | refine AW.seq ?_ | refine AW.block ?_ | (refine AW.reg mix ?_; simp -implicitDefEqProofs [arrO, arrV, arrB, vecO, vecB, -Bool.exists_bool]; try simp (disch := omega) only [w64, wu64]) | (refine need.of (by first | omega | kernel_rfl) ?_) | (refine AW.fin ?_; try simp -implicitDefEqProofs [arrO, arrV, arrB, vecO, vecB, -Bool.exists_bool]))
   ·have g1n : ¬ l.length < L.length := by omega
    refine G1B (fs g1 g1n) ?_; try with_reducible exact tt
    refine AW.cond rfl (fun h => ?_) (fun h => ?_)
    ·simp [g1, g1n] at h
    refine AW.exit ?_
    (try (simp -implicitDefEqProofs [-Bool.exists_bool]; try simp (disch := omega) only [w64, wu64]))
    refine G1B hiz ?_; try with_reducible exact tt
    refine AW.cond rfl (fun h => ?_) (fun h => ?_)
    ·simp [hiz] at h
    refine AW.skip ?_
    simp
    clear g1 g1n
    have hown := o_fz k a b
    have hnew := o_fo l.length hg hl1.1 (by omega)
    have hsl := o_ga l
    obtain ⟨n, hn⟩ : ∃ n, n = l.length := ⟨_, rfl⟩
    simp only [arrO, arrV, arrB, vecO, vecB, List.length_replicate, o_fd, parD] at hown hnew ⊢
    refine AW.freeze 1 3 ⟨43, stV l⟩ (stL l) (by rfl) rfl ?_
    have htk : (stL l).take (l.length * 3) = stL l := List.take_of_length_le (by omega)
    simp [htk]
    refine G0B ?_; try with_reducible exact tt
    refine CallS.pu (hown) (R0B ?_); try with_reducible exact tt
    refine CallS.g [] (hnew) (R0B ?_); try with_reducible exact tt
    refine AW.cond rfl (fun h => ?_) (fun h => ?_)
    ·simp at h
    refine G0B ?_; try with_reducible exact tt
    refine AW.loopT (α := Nat) 5 (fun i => [(54, .d (.int .i64 (i : Int)))]) (fun i => [(4, ⟨71, u64s (wordsP (wdR k a b) (encs k a b (upTo l i)))⟩)]) (fun i => i ≤ l.length) (fun i => l.length - i) 0 ?_ ?_ (Nat.zero_le _) ?_ ?_ ?_
    ·simp
    ·simp
    ·simp
    ·simp [upTo]
    rintro i hi
    simp
    by_cases hi' : i < l.length
    ·have h1 : (i : Int) < l.length := by omega
     have hlg := o_gc l i hi'
     have hset := fun y t f => o_fl (upTo l i) i y t f hg (o_gn hg hlw i) (by rw [o_gk hi]; exact hi') (by rw [o_gk hi]; omega)
     have hwi := o_fh hlw hi'
     have hup := o_gm hi'
     generalize l.getD i (0, 0, false) = s at hlg hwi hup
     obtain ⟨y, t, f⟩ := s
     replace hset := hset y t f hwi
     rw [hup] at hset
     have ew : IntKind.i64.wrap ((i : Int) + 1) = ((i + 1 : Nat) : Int) := by rw [w64 (by omega) (by omega)]; omega
     simp only [arrO, arrV, arrB, vecO, vecB, o_fd, o_gk hi, o_gk (show i + 1 ≤ l.length from hi'), parD, tsD] at hset hlg
     refine G1B (fs hi' (fs h1 hsl)) ?_; try with_reducible exact tt
     refine AW.cond rfl (fun h => ?_) (fun h => ?_)
     ·clear h
      refine G1B (fs hi' (fs h1 (fs hsl hlg))) ?_; try with_reducible exact tt
      refine CallS.g [2, 3, 4] (hset) (R1B (fs hi' (fs h1 (fs hsl hlg))) ?_); try with_reducible exact tt
      refine AW.cond rfl (fun h => ?_) (fun h => ?_)
      ·simp at h
      repeat (first | refine AW.seq ?_ | refine AW.block ?_ | (refine AW.reg mix ?_; simp -implicitDefEqProofs [ew, -Bool.exists_bool]; try simp (disch := omega) only [w64, wu64]) | (refine need.of (by first | omega | kernel_rfl) ?_) | (refine AW.fin ?_; try simp -implicitDefEqProofs [ew, -Bool.exists_bool]))
      (try (simp -implicitDefEqProofs [ew, -Bool.exists_bool]; try simp (disch := omega) only [w64, wu64]))
      repeat (first | refine AW.seq ?_ | refine AW.block ?_ | (refine AW.reg mix ?_; simp -implicitDefEqProofs [ew, -Bool.exists_bool]; try simp (disch := omega) only [w64, wu64]) | (refine need.of (by first | omega | kernel_rfl) ?_) | (refine AW.fin ?_; try simp -implicitDefEqProofs [ew, -Bool.exists_bool]))
      exact ⟨i + 1, by omega, by omega, by simp⟩
     ·simp [hi', h1] at h
    ·have h2 : i = l.length := by omega
     subst h2
     rw [o_gl]
     refine G1B hsl ?_; try with_reducible exact tt
     refine AW.cond rfl (fun h => ?_) (fun h => ?_)
     ·simp at h
     refine AW.exit ?_
     (try (simp -implicitDefEqProofs [-Bool.exists_bool]; try simp (disch := omega) only [w64, wu64]))
     repeat (first | refine AW.seq ?_ | refine AW.block ?_ | (refine AW.reg mix ?_; simp -implicitDefEqProofs [arrO, arrV, arrB, vecO, vecB, -Bool.exists_bool]; try simp (disch := omega) only [w64, wu64]) | (refine need.of (by first | omega | kernel_rfl) ?_) | (refine AW.fin ?_; try simp -implicitDefEqProofs [arrO, arrV, arrB, vecO, vecB, -Bool.exists_bool]))
end
end Go.Proofs.Ytlelpbaeplcfiaa.Am
namespace Go.Proofs.Ytlelpbaeplcfiaa.Am
section
open Go.RowKit
def packBits (w : Nat) (xs : List Nat) : List Bool := xs.flatMap fun x => bitsW x w
theorem o_gp (w : Nat) (xs : List Nat) : (packBits w xs).length = xs.length * w := by
 induction xs with
 | nil => simp [packBits]
 | cons x xs ih => simp only [packBits, List.flatMap_cons, List.length_append, o_ch, List.length_cons, Nat.succ_mul] at ih ⊢; omega
theorem o_gq (w : Nat) (xs : List Nat) (x : Nat) : packBits w (xs ++ [x]) = packBits w xs ++ bitsW x w := by simp [packBits]
theorem o_gr {xs : List Nat} {i : Nat} (h : i < xs.length) : xs.take (i + 1) = xs.take i ++ [xs.getD i 0] := by
 rw [List.take_add_one, List.getElem?_eq_getElem h, List.getD_eq_getElem?_getD, List.getElem?_eq_getElem h]; rfl

set_option maxHeartbeats 1000000 in
theorem o_gs (w : Nat) (xs : List Nat) (h0 : 1 ≤ xs.length) (hn : xs.length ≤ 256) (hw0 : 0 < w) (hw : w ≤ 32) (hs : smallP w xs) :
  Eqn Try.prog o_5c [.p 0 0, .p 2 0] [vecO 1 xs.length w, vecB w xs, ⟨36, [.d .nilsl, .d (.int .i64 0)]⟩] (.tup []) [vecO 1 xs.length w, vecB w xs, wrO 3 (packBits w xs), wrB (packBits w xs)] := by
 refine Eqn.gen [0, 1, 2, 3] o_5e (by simp) (by simp) (by rfl) (by decide) (by simp) (by simp [vecO, vecB, wrO, wrB]) ?_
 have htk : ((wordsP w xs).map fun x : Nat => D.int .u64 x).take (nwP xs.length w) = (wordsP w xs).map fun x : Nat => D.int .u64 x := List.take_of_length_le (by simp)
 have hL0 : u64s (wordsP w xs) = ((wordsP w xs).map fun x : Nat => D.int .u64 x).map V.d := by simp [u64s]
 simp only [o_5d, vecO, vecB]
 refine G0 ?_; try with_reducible exact tt
 refine AW.loopG (α := Nat) (fun i => [.p 0 0, .p 2 0] ++ List.replicate 8 .junk ++ [.d (.int .i64 xs.length), .d (.int .i64 (i : Int))] ++ List.replicate 16 .junk) (fun i => if i = 0 then [some (vecO 1 xs.length w), some (vecB w xs), some ⟨36, [.d .nilsl, .d (.int .i64 0)]⟩] else [some (vecO 1 xs.length w), some (vecB w xs), some (wrO 3 (packBits w (xs.take i))), some (wrB (packBits w (xs.take i)))]) (fun i => i ≤ xs.length) (fun i => xs.length - i) 0 ?_ (Nat.zero_le _) ?_ ?_ ?_
 ·intro i hi; split <;> simp
 ·simp [vecO, vecB]
 ·simp [vecO, vecB]
 rintro i hi
 by_cases hi' : i < xs.length
 ·have h1 : (i : Int) < xs.length := by omega
  have hg := o_f5 w xs i hi' hn hw0 hw hs
  have hlt := o_ei hs i
  have hsn := o_gq w (xs.take i) (xs.getD i 0)
  rw [← o_gr hi'] at hsn
  have ew : IntKind.i64.wrap ((i : Int) + 1) = ((i + 1 : Nat) : Int) := by rw [w64 (by omega) (by omega)]; omega
  have h32 : 2 ^ w ≤ 2 ^ 32 := Nat.pow_le_pow_right (by omega) hw
  generalize xs.getD i 0 = x at *
  by_cases hi0 : i = 0
  ·subst hi0
   rw [if_pos rfl]
   have hB := o_de x w hw0 (by omega) hlt (by omega)
   simp [packBits] at hsn
   simp only [vecO, vecB, vecD, wrO, wrB] at hg hB ⊢
   generalize hLL : ((wordsP w xs).map fun x : Nat => D.int .u64 x) = L0 at *
   simp [hL0]
   refine G1 (fs h1 hi') ?_; try with_reducible exact tt
   refine AW.cond rfl (fun h => ?_) (fun h => ?_)
   ·clear h
    refine G1 (fs h1 hi') ?_; try with_reducible exact tt
    refine CallS.ro [(1, 1, L0), (0, 1, [.sl (nwP xs.length w) L0, .int .i64 xs.length, .int .i64 w])] (hg) (R0 ?_) (hok := by first | (simp [frzOK, frzH, htk]; done) | (simp [frzOK, frzH, htk]; rfl)); try with_reducible exact tt
    refine CallS.g [2] (hB) (R1 ew ?_); try with_reducible exact tt
    refine ⟨1, 3, 3, by simp, by omega, by omega, ?_, ?_⟩
    ·simp [swT, swH, sw, Ob.sw, V.ren, V.rens]
    ·simp [swT, swH, sw, Ob.sw, V.ren, V.rens, wrO, wrB, vecO, vecB, packBits, hsn, hL0, o_4m, o_4n]
   ·simp [h1, hi'] at h
  ·rw [if_neg hi0]
   have hbl : (packBits w (xs.take i)).length = i * w := by rw [o_gp, List.length_take, Nat.min_eq_left (by omega)]
   have hiw : 1 * 1 ≤ i * w := Nat.mul_le_mul (by omega) hw0
   have hiw2 : i * w ≤ 256 * 32 := Nat.mul_le_mul (by omega) hw
   have hB := o_df (packBits w (xs.take i)) x w (fun he => by rw [he] at hbl; simp at hbl; omega) (by omega) (by omega) hlt (by omega)
   rw [← hsn] at hB
   simp only [vecO, vecB, vecD, wrO, wrB] at hg hB ⊢
   generalize hLL : ((wordsP w xs).map fun x : Nat => D.int .u64 x) = L0 at *
   generalize hX2 : packBits w (xs.take (i + 1)) = X2 at *
   generalize packBits w (xs.take i) = X1 at *
   simp [hL0]
   refine G1 (fs h1 hi') ?_; try with_reducible exact tt
   refine AW.cond rfl (fun h => ?_) (fun h => ?_)
   ·clear h
    refine G1 (fs h1 hi') ?_; try with_reducible exact tt
    refine CallS.ro [(1, 1, L0), (0, 1, [.sl (nwP xs.length w) L0, .int .i64 xs.length, .int .i64 w])] (hg) (R0 ?_) (hok := by first | (simp [frzOK, frzH, htk]; done) | (simp [frzOK, frzH, htk]; rfl)); try with_reducible exact tt
    refine CallS.g [2, 3] (hB) (R1 ew ?_); try with_reducible exact tt
    refine ⟨i + 1, 3, 4, by simp, by omega, by omega, ?_, ?_⟩
    ·simp [swT, swH, sw, Ob.sw, V.ren, V.rens]
    ·rw [if_neg (by omega), hX2]
     simp [swT, swH, sw, Ob.sw, V.ren, V.rens, wrO, wrB, vecO, vecB, hL0, o_4m, o_4n]
   ·simp [h1, hi'] at h
 ·have h2 : i = xs.length := by omega
  subst h2
  rw [if_neg (by omega), List.take_length]
  simp only [vecO, vecB, wrO, wrB]
  refine G0 ?_; try with_reducible exact tt
  refine AW.cond rfl (fun h => ?_) (fun h => ?_)
  ·simp at h
  refine AW.exit ?_
  (try (simp -implicitDefEqProofs; try simp (disch := omega) only [w64, wu64]))
  try (refine G0 ?_; try with_reducible exact tt)
end
end Go.Proofs.Ytlelpbaeplcfiaa.Am
namespace Go.Proofs.Ytlelpbaeplcfiaa.Am
section
open Go.RowKit
set_option maxHeartbeats 1000000 in
theorem o_gt : Eqn Try.prog o_53 [] [] (.d (.bool true)) [] := by
 refine Eqn.pure o_55 Plain.ok ?_
 simp only [o_54]
 have hg : GoodR 2 1 3 := o_fy (.inr ⟨by omega, by omega, by omega, by omega⟩)
 have h1 := o_fo 2 hg (by omega) (by omega)
 have hw0 : wells 2 1 3 (List.replicate 2 (0, 0, false)) := o_fm hg 2
 have h2 := o_fl (List.replicate 2 (0, 0, false)) 0 5 0 false hg hw0 (by simp) (by simp) (.inr ⟨by omega, rfl, by omega, by simp⟩)
 have hw1 : wells 2 1 3 ((List.replicate 2 (0, 0, false)).set 0 (5, 0, false)) := o_fn hw0 0 (.inr ⟨by omega, rfl, by omega, by simp⟩)
 have h3 := o_fj ((List.replicate 2 (0, 0, false)).set 0 (5, 0, false)) 0 hg hw1 (by simp) (by simp)
 have hlen : ((List.replicate 2 ((0 : Nat), (0 : Nat), false)).set 0 (5, 0, false)).length = 2 := by simp
 generalize hl1 : (List.replicate 2 ((0 : Nat), (0 : Nat), false)).set 0 (5, 0, false) = l1 at *
 have hwd : wdR 2 1 3 = 4 := by decide
 have h4 := o_gs 4 (encs 2 1 3 l1) (by simp [hlen]) (by simp [hlen]) (by omega) (by omega) (by rw [← hwd]; exact o_fe _ _ _ _)
 have hpl := o_gp 4 (encs 2 1 3 l1)
 rw [o_fd, hlen] at hpl
 have h5 := o_d8 0 (packBits 4 (encs 2 1 3 l1))
 have h6 := o_g9 4 (encs 2 1 3 l1)
 have hg0 : l1.getD 0 (0, 0, false) = (5, 0, false) := by rw [← hl1]; rfl
 rw [hg0] at h3
 have htk : ((wordsP 4 (encs 2 1 3 l1)).map fun x : Nat => D.int .u64 x).take (nwP 2 4) = (wordsP 4 (encs 2 1 3 l1)).map fun x : Nat => D.int .u64 x := List.take_of_length_le (by simp [hlen])
 have hL0 : u64s (wordsP 4 (encs 2 1 3 l1)) = ((wordsP 4 (encs 2 1 3 l1)).map fun x : Nat => D.int .u64 x).map V.d := by simp [u64s]
 simp only [arrO, arrV, arrB, vecO, vecB, vecD, parD, tsD, o_fd, hlen, hwd, wrO, wrB, List.length_replicate] at h1 h2 h3 h4 h5 h6
 generalize wordsP 4 (encs 2 1 3 l1) = WS at *
 generalize wordsP 4 (encs 2 1 3 (List.replicate 2 (0, 0, false))) = W0 at *
 generalize packBits 4 (encs 2 1 3 l1) = PB at *
 generalize nwP 2 4 = NW at *
 generalize hLL : (WS.map fun x : Nat => D.int .u64 x) = L0 at *
 simp at h1 h2 h3 h4 h5
 clear hl1 hw0 hw1 hg0
 refine G0B ?_; try with_reducible exact tt
 refine CallS.g [] (h1) (R0B ?_); try with_reducible exact tt
 refine CallS.g [0, 1, 2] (h2) (R0B ?_); try with_reducible exact tt
 refine AW.cond rfl (fun h => ?_) (fun h => ?_)
 ·simp at h
 refine G0B ?_; try with_reducible exact tt
 refine CallS.g [0, 1, 2] (h3) (R0B ?_); try with_reducible exact tt
 refine CallS.g [1, 2, 4] (h4) (R0B ?_); try with_reducible exact tt
 refine CallS.ro [(2, 1, L0), (1, 1, [.sl NW L0, .int .i64 (2 : Nat), .int .i64 (4 : Nat)])] (h6) (R0B ?_) (hok := by first | (simp [frzOK, frzH, hL0, htk]; done) | (simp [frzOK, frzH, hL0, htk]; rfl)); try with_reducible exact tt
 refine CallS.g [4, 5] (h5) (R1B hpl ?_); try with_reducible exact tt

structure MR where
 e : Int
 l : List ST
 p : Nat
 d : Bool
def mergeUp (cs : List Bool) (k a b : Nat) (l m : List ST) (p : Nat) (d : Bool) : Nat → MR
 | 0 => ⟨0, [], p, d⟩
 | i + 1 =>
  let S := mergeUp cs k a b l m p d i
  if S.e = 0 then
   let R := mergeRM cs k a b (l.getD i (0, 0, false)).1 (l.getD i (0, 0, false)).2.1 (l.getD i (0, 0, false)).2.2 (m.getD i (0, 0, false)).1 (m.getD i (0, 0, false)).2.1 (m.getD i (0, 0, false)).2.2 S.p S.d
   if R.e = 0 then ⟨0, S.l ++ [(R.y, R.t, R.f)], R.p, R.d⟩ else ⟨R.e, S.l, R.p, R.d⟩
  else S
def twin (l acc : List ST) : List ST := acc ++ l.drop acc.length
theorem o_gu {l acc : List ST} (h : acc.length ≤ l.length) : (twin l acc).length = l.length := by simp [twin]; omega
theorem o_gv (l : List ST) : twin l [] = l := by simp [twin]
theorem o_gw {l acc : List ST} (h : acc.length = l.length) : twin l acc = acc := by simp [twin, h]
theorem o_gx {l acc : List ST} (h : acc.length < l.length) (s : ST) : (twin l acc).set acc.length s = twin l (acc ++ [s]) := by
 simp only [twin]
 rw [List.set_append_right _ _ (Nat.le_refl _), Nat.sub_self, List.drop_eq_getElem_cons h, List.set_cons_zero, List.length_append, List.length_singleton, List.append_assoc]
 rfl
theorem o_gy {k a b : Nat} {l acc : List ST} (hl : wells k a b l) (ha : wells k a b acc) : wells k a b (twin l acc) := by
 intro s hs
 rcases List.mem_append.1 hs with hs | hs
 ·exact ha s hs
 ·exact hl s (List.mem_of_mem_drop hs)
end
end Go.Proofs.Ytlelpbaeplcfiaa.Am
namespace Go.Proofs.Ytlelpbaeplcfiaa.Am
section
open Go.RowKit
structure AR where
 e : Int
 l : List ST
 p : Nat
def readA (ws : List Nat) (k a b at_ : Nat) : Nat → AR
 | 0 => ⟨0, [], at_⟩
 | i + 1 => if (readA ws k a b at_ i).e = 0 then
   (if (readR ws k a b (readA ws k a b at_ i).p).2.1 = 0 then ⟨0, (readA ws k a b at_ i).l ++ [(readR ws k a b (readA ws k a b at_ i).p).1], (readR ws k a b (readA ws k a b at_ i).p).2.2⟩ else ⟨(readR ws k a b (readA ws k a b at_ i).p).2.1, [], (readR ws k a b (readA ws k a b at_ i).p).2.2⟩)
  else readA ws k a b at_ i
theorem o_gz {ws : List Nat} {k a b at_ i : Nat} (h : (readA ws k a b at_ i).e ≠ 0) : ∀ j, readA ws k a b at_ (i + j) = readA ws k a b at_ i
 | 0 => rfl
 | j + 1 => by rw [← Nat.add_assoc, readA, o_gz h j, if_neg h]
theorem o_h0 {ws : List Nat} {k a b p : Nat} (hp : p ≤ 8 * ws.length) : (readR ws k a b p).2.2 ≤ 8 * ws.length ∧ ((readR ws k a b p).2.1 = 0 → WellR k a b (readR ws k a b p).1.1 (readR ws k a b p).1.2.1 (readR ws k a b p).1.2.2) := by
 unfold readR
 by_cases h1 : 8 * ws.length - p < kwR k a b + twR k b + 1
 ·rw [if_pos h1]; exact ⟨hp, fun h => by simp at h⟩
 ·rw [if_neg h1]
  split
  ·rename_i h2
   exact ⟨by simp only; omega, fun _ => o_dw.1 h2⟩
  ·exact ⟨by simp only; omega, fun h => by simp at h⟩
theorem o_h1 {ws : List Nat} {k a b at_ : Nat} (h : at_ ≤ 8 * ws.length) : ∀ i, (readA ws k a b at_ i).p ≤ 8 * ws.length ∧ wells k a b (readA ws k a b at_ i).l ∧ ((readA ws k a b at_ i).e = 0 → (readA ws k a b at_ i).l.length = i)
 | 0 => ⟨h, by intro s hs; simp [readA] at hs, fun _ => rfl⟩
 | i + 1 => by
  obtain ⟨h1, h2, h3⟩ := o_h1 (k := k) (a := a) (b := b) h i
  have hr := o_h0 (k := k) (a := a) (b := b) h1
  rw [readA]
  by_cases he : (readA ws k a b at_ i).e = 0
  ·rw [if_pos he]
   generalize readR ws k a b (readA ws k a b at_ i).p = R at *
   by_cases hz : R.2.1 = 0
   ·rw [if_pos hz]
    refine ⟨hr.1, fun s hs => ?_, fun _ => by simp [h3 he]⟩
    rcases List.mem_append.1 hs with hs | hs
    ·exact h2 s hs
    ·rw [List.mem_singleton] at hs; rw [hs]; exact hr.2 hz
   ·rw [if_neg hz]
    exact ⟨hr.1, by intro s hs; simp at hs, fun h => absurd h hz⟩
  ·rw [if_neg he]
   exact ⟨h1, h2, fun h => absurd h he⟩

set_option maxHeartbeats 2000000 in
theorem o_h2 {k a b n : Nat} (h : GoodR k a b) (n1 : 1 ≤ n) (n2 : n ≤ 256) (ws : List Nat) (hs : smallB ws) (hn : ws.length ≤ 400000) (at_ : Nat) (hat : at_ ≤ 8 * ws.length) (S : AR) (hS : S = readA ws k a b at_ n) :
  (S.e = 0 → Eqn Try.prog o_5i [.p 0 0, .d (parD k a b), .d (.int .i64 n)] [rdO ws at_] (.tup [.p 1 0, .d (.int .i64 0)]) [rdO ws S.p, arrO 2 k a b, arrV 3 k a b S.l, arrB k a b S.l]) ∧
  (S.e ≠ 0 → Eqn Try.prog o_5i [.p 0 0, .d (parD k a b), .d (.int .i64 n)] [rdO ws at_] (.tup [.d .nilp, .d (.int .i64 S.e)]) [rdO ws S.p]) := by
 have hc := o_fo (k := k) (a := a) (b := b) n h n1 n2
 have hgood := o_h1 (k := k) (a := a) (b := b) hat
 constructor
 ·intro he
  refine Eqn.gen [0, 2, 3, 4] o_5k (by simp) (by simp) (by rfl) (by decide) (by simp) (by simp [arrO, arrV, arrB, vecO, vecB, rdO]) ?_
  have hSl : S.l.length = n := by rw [hS]; exact (hgood n).2.2 (by rw [← hS]; exact he)
  simp only [o_5j, arrO, arrV, arrB, vecO, vecB, parD, rdO, o_fd, List.length_replicate, hSl] at hc ⊢
  refine A00B ?_; try with_reducible exact tt
  refine CallS.g [] (hc) (R0B ?_); try with_reducible exact tt
  refine A00B ?_; try with_reducible exact tt
  refine AW.loopT (α := Nat) 5 (fun i => [(23, .d (.int .i64 (i : Nat)))]) (fun i => [(0, ⟨79, [.d (BY ws), .d (.int .i64 ((readA ws k a b at_ i).p : Nat))]⟩), (4, ⟨71, u64s (wordsP (wdR k a b) (encs k a b (twin (List.replicate n (0, 0, false)) (readA ws k a b at_ i).l)))⟩)]) (fun i => i ≤ n ∧ (readA ws k a b at_ i).e = 0) (fun i => n - i) 0 ?_ ?_ ⟨Nat.zero_le _, rfl⟩ ?_ ?_ ?_
  ·simp
  ·simp
  ·simp [-Bool.exists_bool]
  ·simp [o_gv, readA, -Bool.exists_bool]
  rintro i ⟨hi, hie⟩
  simp [-Bool.exists_bool]
  obtain ⟨gp, gw, gl⟩ := hgood i
  replace gl := gl hie
  have hrd := o_e8 ws (k := k) (a := a) (b := b) (readA ws k a b at_ i).p h hs hn gp _ rfl
  have hrw := o_h0 (k := k) (a := a) (b := b) gp
  have hst : readA ws k a b at_ (i + 1) = if (readR ws k a b (readA ws k a b at_ i).p).2.1 = 0 then ⟨0, (readA ws k a b at_ i).l ++ [(readR ws k a b (readA ws k a b at_ i).p).1], (readR ws k a b (readA ws k a b at_ i).p).2.2⟩ else ⟨(readR ws k a b (readA ws k a b at_ i).p).2.1, [], (readR ws k a b (readA ws k a b at_ i).p).2.2⟩ := by
   rw [readA, if_pos hie]
  have ew : IntKind.i64.wrap ((i : Int) + 1) = ((i + 1 : Nat) : Int) := by rw [w64 (by omega) (by omega)]; omega
  have hw0 : wells k a b (List.replicate n (0, 0, false)) := o_fm h n
  have htl : (twin (List.replicate n (0, 0, false)) (readA ws k a b at_ i).l).length = n := by rw [o_gu (by simp; omega)]; simp
  by_cases hin : i < n
  ·have hz : (readR ws k a b (readA ws k a b at_ i).p).2.1 = 0 := by
    by_cases hz : (readR ws k a b (readA ws k a b at_ i).p).2.1 = 0
    ·exact hz
    ·exfalso
     rw [if_neg hz] at hst
     have := o_gz (ws := ws) (k := k) (a := a) (b := b) (at_ := at_) (i := i + 1) (by rw [hst]; exact hz) (n - (i + 1))
     rw [show i + 1 + (n - (i + 1)) = n by omega, ← hS, hst] at this
     rw [this] at he
     exact hz he
   have hin' : (i : Int) < n := by omega
   have hset := o_fl (k := k) (a := a) (b := b) (twin (List.replicate n (0, 0, false)) (readA ws k a b at_ i).l) i (readR ws k a b (readA ws k a b at_ i).p).1.1 (readR ws k a b (readA ws k a b at_ i).p).1.2.1 (readR ws k a b (readA ws k a b at_ i).p).1.2.2 h (o_gy hw0 gw) (by omega) (by omega) (hrw.2 hz)
   have hts := o_gx (l := List.replicate n (0, 0, false)) (acc := (readA ws k a b at_ i).l) (by simp; omega) (readR ws k a b (readA ws k a b at_ i).p).1
   rw [gl] at hts
   rw [if_pos hz] at hst
   have htl2 : (twin (List.replicate n (0, 0, false)) ((readA ws k a b at_ i).l ++ [(readR ws k a b (readA ws k a b at_ i).p).1])).length = n := by rw [o_gu (by simp; omega)]; simp
   rw [show ((readR ws k a b (readA ws k a b at_ i).p).1.1, (readR ws k a b (readA ws k a b at_ i).p).1.2.1, (readR ws k a b (readA ws k a b at_ i).p).1.2.2) = (readR ws k a b (readA ws k a b at_ i).p).1 from rfl, hts] at hset
   have hse : (readA ws k a b at_ (i + 1)).e = 0 := by rw [hst]
   have hsp : (readA ws k a b at_ (i + 1)).p = (readR ws k a b (readA ws k a b at_ i).p).2.2 := by rw [hst]
   have hsl : (readA ws k a b at_ (i + 1)).l = (readA ws k a b at_ i).l ++ [(readR ws k a b (readA ws k a b at_ i).p).1] := by rw [hst]
   rw [hz] at hrd
   simp only [arrO, arrV, arrB, vecO, vecB, o_fd, htl, htl2, parD, tsD, rdO] at hset hrd
   clear hst hts hrw
   generalize readR ws k a b (readA ws k a b at_ i).p = Q at *
   obtain ⟨⟨q1, q2, q3⟩, qe, qp⟩ := Q
   simp only at hrd hset hse hsp hsl hz
   refine A10B (fs hin hin') ?_; try with_reducible exact tt
   refine CallS.o1 0 (hrd) (R0B ?_); try with_reducible exact tt
   refine A00B ?_; try with_reducible exact tt
   refine CallS.g [2, 3, 4] (hset) (R1B ew ?_); try with_reducible exact tt
   refine A10B ew ?_; try with_reducible exact tt
   exact ⟨i + 1, ⟨by omega, hse⟩, by omega, Sub1.int (by omega), Subs.of (by simp [hsp]), Subs.of (by rw [hsl])⟩
  ·have h2 : i = n := by omega
   subst h2
   rw [← hS, o_gw (by simp; omega)]
   clear hst hrd hrw
   refine A00B ?_; try with_reducible exact tt
 ·intro he
  refine Eqn.gen [0] o_5k (by simp) (by simp) (by rfl) (by decide) (by simp) (by simp [rdO]) ?_
  have hSl : True := trivial
  simp only [o_5j, arrO, arrV, arrB, vecO, vecB, parD, rdO, o_fd, List.length_replicate, hSl] at hc ⊢
  refine A00B ?_; try with_reducible exact tt
  refine CallS.g [] (hc) (R0B ?_); try with_reducible exact tt
  refine A00B ?_; try with_reducible exact tt
  refine AW.loopT (α := Nat) 5 (fun i => [(23, .d (.int .i64 (i : Nat)))]) (fun i => [(0, ⟨79, [.d (BY ws), .d (.int .i64 ((readA ws k a b at_ i).p : Nat))]⟩), (4, ⟨71, u64s (wordsP (wdR k a b) (encs k a b (twin (List.replicate n (0, 0, false)) (readA ws k a b at_ i).l)))⟩)]) (fun i => i ≤ n ∧ (readA ws k a b at_ i).e = 0) (fun i => n - i) 0 ?_ ?_ ⟨Nat.zero_le _, rfl⟩ ?_ ?_ ?_
  ·simp
  ·simp
  ·simp [-Bool.exists_bool]
  ·simp [o_gv, readA, -Bool.exists_bool]
  rintro i ⟨hi, hie⟩
  simp [-Bool.exists_bool]
  obtain ⟨gp, gw, gl⟩ := hgood i
  replace gl := gl hie
  have hrd := o_e8 ws (k := k) (a := a) (b := b) (readA ws k a b at_ i).p h hs hn gp _ rfl
  have hrw := o_h0 (k := k) (a := a) (b := b) gp
  have hst : readA ws k a b at_ (i + 1) = if (readR ws k a b (readA ws k a b at_ i).p).2.1 = 0 then ⟨0, (readA ws k a b at_ i).l ++ [(readR ws k a b (readA ws k a b at_ i).p).1], (readR ws k a b (readA ws k a b at_ i).p).2.2⟩ else ⟨(readR ws k a b (readA ws k a b at_ i).p).2.1, [], (readR ws k a b (readA ws k a b at_ i).p).2.2⟩ := by
   rw [readA, if_pos hie]
  have ew : IntKind.i64.wrap ((i : Int) + 1) = ((i + 1 : Nat) : Int) := by rw [w64 (by omega) (by omega)]; omega
  have hw0 : wells k a b (List.replicate n (0, 0, false)) := o_fm h n
  have htl : (twin (List.replicate n (0, 0, false)) (readA ws k a b at_ i).l).length = n := by rw [o_gu (by simp; omega)]; simp
  by_cases hin : i < n
  ·by_cases hz : (readR ws k a b (readA ws k a b at_ i).p).2.1 = 0
   ·have hin' : (i : Int) < n := by omega
    have hset := o_fl (k := k) (a := a) (b := b) (twin (List.replicate n (0, 0, false)) (readA ws k a b at_ i).l) i (readR ws k a b (readA ws k a b at_ i).p).1.1 (readR ws k a b (readA ws k a b at_ i).p).1.2.1 (readR ws k a b (readA ws k a b at_ i).p).1.2.2 h (o_gy hw0 gw) (by omega) (by omega) (hrw.2 hz)
    have hts := o_gx (l := List.replicate n (0, 0, false)) (acc := (readA ws k a b at_ i).l) (by simp; omega) (readR ws k a b (readA ws k a b at_ i).p).1
    rw [gl] at hts
    rw [if_pos hz] at hst
    have htl2 : (twin (List.replicate n (0, 0, false)) ((readA ws k a b at_ i).l ++ [(readR ws k a b (readA ws k a b at_ i).p).1])).length = n := by rw [o_gu (by simp; omega)]; simp
    rw [show ((readR ws k a b (readA ws k a b at_ i).p).1.1, (readR ws k a b (readA ws k a b at_ i).p).1.2.1, (readR ws k a b (readA ws k a b at_ i).p).1.2.2) = (readR ws k a b (readA ws k a b at_ i).p).1 from rfl, hts] at hset
    have hse : (readA ws k a b at_ (i + 1)).e = 0 := by rw [hst]
    have hsp : (readA ws k a b at_ (i + 1)).p = (readR ws k a b (readA ws k a b at_ i).p).2.2 := by rw [hst]
    have hsl : (readA ws k a b at_ (i + 1)).l = (readA ws k a b at_ i).l ++ [(readR ws k a b (readA ws k a b at_ i).p).1] := by rw [hst]
    rw [hz] at hrd
    simp only [arrO, arrV, arrB, vecO, vecB, o_fd, htl, htl2, parD, tsD, rdO] at hset hrd
    clear hst hts hrw
    generalize readR ws k a b (readA ws k a b at_ i).p = Q at *
    obtain ⟨⟨q1, q2, q3⟩, qe, qp⟩ := Q
    simp only at hrd hset hse hsp hsl hz
    refine A10B (fs hin hin') ?_; try with_reducible exact tt
    refine CallS.o1 0 (hrd) (R0B ?_); try with_reducible exact tt
    refine A00B ?_; try with_reducible exact tt
    refine CallS.g [2, 3, 4] (hset) (R1B ew ?_); try with_reducible exact tt
    refine A10B ew ?_; try with_reducible exact tt
    exact ⟨i + 1, ⟨by omega, hse⟩, by omega, Sub1.int (by omega), Subs.of (by simp [hsp]), Subs.of (by rw [hsl])⟩
   ·have hin' : (i : Int) < n := by omega
    rw [if_neg hz] at hst
    have := o_gz (ws := ws) (k := k) (a := a) (b := b) (at_ := at_) (i := i + 1) (by rw [hst]; exact hz) (n - (i + 1))
    rw [show i + 1 + (n - (i + 1)) = n by omega, ← hS, hst] at this
    rw [this]
    simp only [parD, tsD, rdO] at hrd
    clear this hst hrw
    generalize readR ws k a b (readA ws k a b at_ i).p = Q at *
    obtain ⟨⟨q1, q2, q3⟩, qe, qp⟩ := Q
    simp only at hrd hz ⊢
    refine A10B (fs hin hin') ?_; try with_reducible exact tt
    refine CallS.o1 0 (hrd) (R1B hz ?_); try with_reducible exact tt
    refine A10B hz ?_; try with_reducible exact tt
  ·have h2 : i = n := by omega
   subst h2
   rw [← hS] at hie
   exact absurd hie he
end
end Go.Proofs.Ytlelpbaeplcfiaa.Am
namespace Go.Proofs.Ytlelpbaeplcfiaa.Am
section
open Go.RowKit
theorem o_h3 {n : Nat} (h : 0 < n) : bitsN n = bitsN (n / 2) + 1 := by
 refine Nat.le_antisymm (o_bs ?_) ?_
 ·have := o_br (n / 2)
  rw [Nat.pow_succ]
  omega
 ·have h1 : n / 2 < 2 ^ (bitsN n - 1) := by
   have h2 := o_br n
   have h3 : bitsN n ≠ 0 := fun h0 => by rw [h0] at h2; simp at h2; omega
   obtain ⟨m, hm⟩ : ∃ m, bitsN n = m + 1 := ⟨bitsN n - 1, by omega⟩
   rw [hm, Nat.pow_succ] at h2
   rw [hm, Nat.add_sub_cancel]
   omega
  have := o_bs h1
  have h3 : bitsN n ≠ 0 := fun h0 => by have h2 := o_br n; rw [h0] at h2; simp at h2; omega
  omega
theorem o_h4 (n : Nat) (hn : n < 9223372036854775808) : Eqn Try.prog o_a0 [.d (.int .i64 n)] [] (.d (.int .i64 (bitsN n))) [] := by
 refine Eqn.pure o_a2 Plain.ok ?_
 have hb : bitsN n ≤ 63 := o_bs (by omega)
 simp only [o_a1]
 refine A00 ?_; try with_reducible exact tt
 refine AW.loopT (α := Nat × Nat) 0 (fun s => [(0, .d (.int .i64 (s.1 : Nat))), (3, .d (.int .i64 (s.2 : Nat)))]) (fun s => []) (fun s => s.1 ≤ n ∧ bitsN s.1 + s.2 = bitsN n) (fun s => s.1) (n, 0) ?_ ?_ ⟨Nat.le_refl _, rfl⟩ ?_ ?_ ?_
 ·simp
 ·simp
 ·simp
 ·simp
 rintro ⟨m, c⟩ ⟨hm, hc⟩
 simp only at hm hc
 simp
 by_cases h0 : 0 < m
 ·have h0' : (0 : Int) < m := by omega
  have hh := o_h3 h0
  have e1 : (m : Int).tdiv 2 = ((m / 2 : Nat) : Int) := by rw [Int.tdiv_eq_ediv_of_nonneg (by omega)]; omega
  have e2 : IntKind.i64.wrap ((c : Int) + 1) = ((c + 1 : Nat) : Int) := by rw [w64 (by omega) (by omega)]; omega
  have hlt : m / 2 < m := by omega
  have e3 : IntKind.i64.wrap ((m / 2 : Nat) : Int) = ((m / 2 : Nat) : Int) := w64 (by omega) (by omega)
  generalize m / 2 = q at *
  refine A10 (fs h0 (fs h0' (fs e1 (fs e2 e3)))) ?_; try with_reducible exact tt
  exact ⟨q, c + 1, ⟨by omega, by omega⟩, hlt, Sub1.refl _, Sub1.int (by omega)⟩
 ·have hz : m = 0 := by omega
  subst hz
  have hcb : c = bitsN n := by
   have : bitsN 0 = 0 := Nat.le_zero.1 (o_bs (by decide))
   omega
  subst hcb
  refine A00 ?_; try with_reducible exact tt

theorem o_h5 {k a b : Nat} (h : GoodR k a b) : Eqn Try.prog o_8o [.d (parD k a b)] [] (.tup [.d (.int .i64 (kwR k a b)), .d (.int .i64 (twR k b))]) [] := by
 refine Eqn.pure o_8q Plain.ok ?_
 simp only [o_8p, parD]
 by_cases h4 : k = 4
 ·subst h4
  have ht : GoodT a b := by
   rcases h with h | h
   ·exact h.2
   ·exact absurd rfl h.1
  have ha : a < 9223372036854775808 := by have := ht.2.1; omega
  have hb : b < 9223372036854775808 := by have := ht.2.2; omega
  have l1 := o_h4 a ha
  have l2 := o_h4 b hb
  simp only [kwR, twR, if_pos]
  refine A00 ?_; try with_reducible exact tt
  refine CallS.pu (l1) (R0 ?_); try with_reducible exact tt
  refine CallS.pu (l2) (R0 ?_); try with_reducible exact tt
 ·have h4' : ¬ ((k : Int) = 4) := by omega
  simp only [kwR, twR, if_neg h4]
  refine A10 (fs h4 h4') ?_; try with_reducible exact tt

def bD (bs : List Bool) : List D := bs.map D.bool
@[simp] theorem o_h6 (bs : List Bool) : (bD bs).length = bs.length := by simp [bD]
theorem o_h7 (l k : List Bool) : bD l ++ bD k = bD (l ++ k) := by simp [bD]
theorem o_h8 (l k : List Bool) : (bD l).map V.d ++ (bD k).map V.d = (bD (l ++ k)).map V.d := by simp [bD]
theorem o_h9 (b : Bool) (k : List Bool) : D.bool b :: bD k = bD (b :: k) := rfl
@[simp] theorem o_ha (n : Nat) (bs : List Bool) : V.lowl n ((bD bs).map V.d) = true := o_4n n _
@[simp] theorem o_hb (θ : Nat → Nat) (bs : List Bool) : V.rens θ ((bD bs).map V.d) = (bD bs).map V.d := o_4m θ _
theorem o_hc (bs : List Bool) : BL bs = .sl bs.length (bD bs) := rfl
theorem o_hd (n i : Nat) : bitsW n (i + 1) = decide (n / 2 ^ i % 2 = 1) :: bitsW n i := by
 simp only [bitsW, List.range_succ_eq_map, List.map_cons, List.map_map]
 congr 1
 apply List.map_congr_left
 intro j hj
 simp only [Function.comp]
 rw [show i + 1 - 1 - j.succ = i - 1 - j by omega]

def shrN (n i : Nat) : Nat := n / 2 ^ i
theorem o_he (n i : Nat) : shrN n (i + 1) = shrN n i / 2 := by rw [shrN, shrN, Nat.div_div_eq_div_mul, Nat.pow_succ]
theorem o_hf (l : List Bool) (n w : Nat) (hw : w ≤ 64) (h : n < 2 ^ w) (hn : n < 18446744073709551616) (hl : l.length ≤ 4000000) (bs : List Bool) (hbs : bs = l ++ bitsW n w) (hne : bs ≠ []) :
  Eqn Try.prog o_8r [.d (BL l), .d (.int .u64 n), .d (.int .i64 w)] [] (.tup [.own 0 1 bs.length, .d (.int .i64 0)]) [⟨4, (bD bs).map V.d⟩] := by
 by_cases hl0 : l = []
 ·subst hl0
  refine Eqn.gen [0] o_8t (by simp) (by simp) (by rfl) (by decide) (by simp) (by simp [o_4n]) ?_
  have h0 : ¬ ((w : Int) < 0) := by omega
  have h64 : ¬ ((64 : Int) < w) := by omega
  have hnd : n / 2 ^ w = 0 := Nat.div_eq_of_lt h
  simp only [o_8s]
  rw [o_hc]
  have hbw : 0 + w = bs.length := by simp [hbs]
  refine A10 (fs h0 h64) ?_; try with_reducible exact tt
  refine AW.loopT (α := Nat) 0 (fun i => [(1, .d (.int .u64 (shrN n i : Nat))), (8, .d (.sl i (bD (bitsW n i)))), (9, .d (.int .i64 (i : Nat)))]) (fun i => []) (fun i => i ≤ w) (fun i => w - i) 0 ?_ ?_ (Nat.zero_le _) ?_ ?_ ?_
  ·simp
  ·simp
  ·simp; exact ⟨Sub1.int (by simp [shrN]), Sub1.nil⟩
  ·simp
  intro i hi
  simp
  by_cases hiw : i < w
  ·have hiw' : (i : Int) < w := by omega
   have e1 : IntKind.i64.wrap ((i : Int) + 1) = ((i + 1 : Nat) : Int) := by rw [w64 (by omega) (by omega)]; omega
   have e2 := o_he n i
   have hc : bitsW n (i + 1) = decide (shrN n i % 2 = 1) :: bitsW n i := o_hd n i
   have hle : shrN n i ≤ n := Nat.div_le_self _ _
   have hbl : (bitsW n i).length = i := o_ch n i
   obtain ⟨q, hq⟩ : ∃ q, q = shrN n i := ⟨_, rfl⟩
   obtain ⟨b0, hb0⟩ : ∃ b, b = bitsW n i := ⟨_, rfl⟩
   rw [← hq] at e2 hc hle ⊢
   rw [← hb0] at hc hbl ⊢
   have e3 : (((q : Int).tmod 2 == 1) : Bool) = decide (q % 2 = 1) := by rw [Int.tmod_eq_emod_of_nonneg (by omega)]; by_cases hh : q % 2 = 1 <;> simp [hh] <;> omega
   have h48 : 1 + i ≤ 140737488355328 := by omega
   repeat (first | refine AW.seq ?_ | refine AW.block ?_)
   refine AW.reg mix ?_
   (simp -implicitDefEqProofs [hiw, hiw']; try simp (disch := omega) only [w64, wu64])
   try refine need.of (by first | omega | kernel_rfl) ?_
   refine AW.cond rfl (fun h => ?_) (fun h => ?_)
   ·refine AW.skip ?_
    simp
    repeat (first | refine AW.seq ?_ | refine AW.block ?_)
    refine AW.reg mix ?_
    (simp -implicitDefEqProofs [hbl, e3, h48]; try simp (disch := omega) only [w64, wu64])
    try refine need.of (by first | omega | kernel_rfl) ?_
    refine AW.freeze 1 1 ⟨4, (D.bool (decide (q % 2 = 1)) :: bD b0).map V.d⟩ (D.bool (decide (q % 2 = 1)) :: bD b0) (by simp) rfl ?_
    simp
    refine A10 e1 ?_; try with_reducible exact tt
    exact ⟨i + 1, by omega, by omega, Sub1.int (by rw [e2]; omega), Sub1.of (by rw [hc, o_h9, List.take_of_length_le (by simp [hbl]; omega), Nat.add_comm]), Sub1.int (by omega)⟩
   ·simp [hiw] at h
  ·have : i = w := by omega
   subst this
   have e2 : shrN n i = 0 := hnd
   rw [e2]
   have hi0 : i ≠ 0 := fun h0 => hne (by rw [hbs, h0]; rfl)
   have hi1 : i ≤ 140737488355328 := by omega
   rw [List.nil_append] at hbs
   subst hbs
   refine A10 (fs hi0 hi1) ?_; try with_reducible exact tt
 ·skip
  refine Eqn.gen [1] o_8t (by simp) (by simp) (by rfl) (by decide) (by simp) (by simp [o_4n]) ?_
  have h0 : ¬ ((w : Int) < 0) := by omega
  have h64 : ¬ ((64 : Int) < w) := by omega
  have hnd : n / 2 ^ w = 0 := Nat.div_eq_of_lt h
  simp only [o_8s]
  rw [o_hc]
  have hbw : l.length + w = bs.length := by simp [hbs]
  refine A10 (fs h0 h64) ?_; try with_reducible exact tt
  refine AW.loopT (α := Nat) 0 (fun i => [(1, .d (.int .u64 (shrN n i : Nat))), (8, .d (.sl i (bD (bitsW n i)))), (9, .d (.int .i64 (i : Nat)))]) (fun i => []) (fun i => i ≤ w) (fun i => w - i) 0 ?_ ?_ (Nat.zero_le _) ?_ ?_ ?_
  ·simp
  ·simp
  ·simp; exact ⟨Sub1.int (by simp [shrN]), Sub1.nil⟩
  ·simp
  intro i hi
  simp
  by_cases hiw : i < w
  ·have hiw' : (i : Int) < w := by omega
   have e1 : IntKind.i64.wrap ((i : Int) + 1) = ((i + 1 : Nat) : Int) := by rw [w64 (by omega) (by omega)]; omega
   have e2 := o_he n i
   have hc : bitsW n (i + 1) = decide (shrN n i % 2 = 1) :: bitsW n i := o_hd n i
   have hle : shrN n i ≤ n := Nat.div_le_self _ _
   have hbl : (bitsW n i).length = i := o_ch n i
   obtain ⟨q, hq⟩ : ∃ q, q = shrN n i := ⟨_, rfl⟩
   obtain ⟨b0, hb0⟩ : ∃ b, b = bitsW n i := ⟨_, rfl⟩
   rw [← hq] at e2 hc hle ⊢
   rw [← hb0] at hc hbl ⊢
   have e3 : (((q : Int).tmod 2 == 1) : Bool) = decide (q % 2 = 1) := by rw [Int.tmod_eq_emod_of_nonneg (by omega)]; by_cases hh : q % 2 = 1 <;> simp [hh] <;> omega
   have h48 : 1 + i ≤ 140737488355328 := by omega
   repeat (first | refine AW.seq ?_ | refine AW.block ?_)
   refine AW.reg mix ?_
   (simp -implicitDefEqProofs [hiw, hiw']; try simp (disch := omega) only [w64, wu64])
   try refine need.of (by first | omega | kernel_rfl) ?_
   refine AW.cond rfl (fun h => ?_) (fun h => ?_)
   ·refine AW.skip ?_
    simp
    repeat (first | refine AW.seq ?_ | refine AW.block ?_)
    refine AW.reg mix ?_
    (simp -implicitDefEqProofs [hbl, e3, h48]; try simp (disch := omega) only [w64, wu64])
    try refine need.of (by first | omega | kernel_rfl) ?_
    refine AW.freeze 1 1 ⟨4, (D.bool (decide (q % 2 = 1)) :: bD b0).map V.d⟩ (D.bool (decide (q % 2 = 1)) :: bD b0) (by simp) rfl ?_
    simp
    refine A10 e1 ?_; try with_reducible exact tt
    exact ⟨i + 1, by omega, by omega, Sub1.int (by rw [e2]; omega), Sub1.of (by rw [hc, o_h9, List.take_of_length_le (by simp [hbl]; omega), Nat.add_comm]), Sub1.int (by omega)⟩
   ·simp [hiw] at h
  ·have : i = w := by omega
   subst this
   have e2 : shrN n i = 0 := hnd
   rw [e2]
   have hl1 : l.length ≤ 140737488355328 := by omega
   have hl2 : l.length + i ≤ 140737488355328 := by omega
   have hap := o_h8 l (bitsW n i)
   rw [← hbs] at hap
   refine A10 (fs hl0 (fs hl1 (fs hl2 (fs hap hbw)))) ?_; try with_reducible exact tt

theorem o_hg (l : List Bool) (at_ i : Nat) (h : at_ + i < l.length) : numB ((l.drop at_).take (i + 1)) 0 = 2 * numB ((l.drop at_).take i) 0 + b2n (l.getD (at_ + i) false) := by
 have e : (l.drop at_).take (i + 1) = (l.drop at_).take i ++ [l.getD (at_ + i) false] := by
  rw [List.take_add_one, List.getElem?_drop, List.getD_eq_getElem?_getD, List.getElem?_eq_getElem h]; rfl
 rw [e, o_ce]; rfl
def numL (l : List Bool) (at_ i : Nat) : Nat := numB ((l.drop at_).take i) 0
theorem o_hh (l : List Bool) (at_ : Nat) : numL l at_ 0 = 0 := by simp [numL, numB]
theorem o_hi (l : List Bool) (at_ i : Nat) : numL l at_ i < 2 ^ i := by
 have h := o_cg ((l.drop at_).take i)
 refine Nat.lt_of_lt_of_le h (Nat.pow_le_pow_right (by omega) ?_)
 rw [List.length_take]; omega
theorem o_hj (l : List Bool) (at_ w : Nat) (hw : w ≤ 32) (h : at_ + w ≤ l.length) (hl : l.length ≤ 4000000) :
  Eqn Try.prog o_9c [.d (BL l), .d (.int .i64 at_), .d (.int .i64 w)] [] (.tup [.d (.int .u64 (numL l at_ w)), .d (.int .i64 (at_ + w : Nat)), .d (.int .i64 0)]) [] := by
 refine Eqn.pure o_9e Plain.ok ?_
 have h0 : ¬ ((w : Int) < 0) := by omega
 have h64 : ¬ ((64 : Int) < w) := by omega
 have h1 : ¬ ((l.length : Int) - at_ < w) := by omega
 have e1 : IntKind.i64.wrap ((at_ : Int) + w) = ((at_ + w : Nat) : Int) := by rw [w64 (by omega) (by omega)]; omega
 have e2 : IntKind.i64.wrap ((l.length : Int) - at_) = (l.length : Int) - at_ := w64 (by omega) (by omega)
 rw [o_hc]
 simp only [o_9d]
 refine A10 (fs h0 (fs h64 (fs h1 e2))) ?_; try with_reducible exact tt
 refine AW.loopT (α := Nat) 0 (fun i => [(9, .d (.int .u64 (numL l at_ i : Nat))), (10, .d (.int .i64 (i : Nat)))]) (fun i => []) (fun i => i ≤ w) (fun i => w - i) 0 ?_ ?_ (Nat.zero_le _) ?_ ?_ ?_
 ·simp
 ·simp
 ·simp [o_hh]
 ·simp
 intro i hi
 simp
 by_cases hiw : i < w
 ·have hiw' : (i : Int) < w := by omega
  have hs := o_hg l at_ i (by omega)
  have hlt := o_hi l at_ i
  have hlt2 := o_hi l at_ (i + 1)
  have hp : 2 ^ (i + 1) ≤ 2 ^ 32 := Nat.pow_le_pow_right (by omega) (by omega)
  have e3 : IntKind.i64.wrap ((i : Int) + 1) = ((i + 1 : Nat) : Int) := by rw [w64 (by omega) (by omega)]; omega
  have e4 : IntKind.i64.wrap ((at_ : Int) + i) = ((at_ + i : Nat) : Int) := by rw [w64 (by omega) (by omega)]; omega
  have hin : (at_ : Int) + i < l.length := by omega
  have hin' : at_ + i < l.length := by omega
  have etn : ((at_ : Int) + i).toNat = at_ + i := by omega
  have hge : ∀ h, (bD l)[at_ + i]'h = .bool (l.getD (at_ + i) false) := fun h => by simp [bD, hin']
  change numL l at_ (i + 1) = 2 * numL l at_ i + b2n (l.getD (at_ + i) false) at hs
  obtain ⟨N1, hN1⟩ : ∃ N1, N1 = numL l at_ (i + 1) := ⟨_, rfl⟩
  rw [← hN1] at hs hlt2
  generalize numL l at_ i = N0 at *
  generalize l.getD (at_ + i) false = x at *
  have e5 : IntKind.u64.wrap (2 * (N0 : Int)) = ((2 * N0 : Nat) : Int) := by rw [wu64 (by omega) (by omega)]; omega
  have e6 : IntKind.u64.wrap (2 * (N0 : Int) + 1) = ((2 * N0 + 1 : Nat) : Int) := by rw [wu64 (by omega) (by omega)]; omega
  cases x
  ·refine A10 (fs hiw (fs hiw' (fs e3 (fs e4 (fs e5 (fs e6 (fs hin (fs hin' (fs etn hge))))))))) ?_; try with_reducible exact tt
   exact ⟨i + 1, by omega, by omega, Sub1.int (by rw [← hN1]; simp [b2n] at hs; omega), Sub1.int (by omega)⟩
  ·refine A10 (fs hiw (fs hiw' (fs e3 (fs e4 (fs e5 (fs e6 (fs hin (fs hin' (fs etn hge))))))))) ?_; try with_reducible exact tt
   exact ⟨i + 1, by omega, by omega, Sub1.int (by rw [← hN1]; simp [b2n] at hs; omega), Sub1.int (by omega)⟩
 ·have : i = w := by omega
  subst this
  refine A10 e1 ?_; try with_reducible exact tt
end
end Go.Proofs.Ytlelpbaeplcfiaa.Am
namespace Go.Proofs.Ytlelpbaeplcfiaa.Am
section
open Go.RowKit
theorem o_hk (d : Nat) (hd : d ≤ 10) : Eqn Try.prog o_af [.d (.int .i64 d)] [] (.d (.int .i64 (2 ^ d : Nat))) [] := by
 have h := o_c0 d (by omega)
 have e : p2 d = 2 ^ d := rfl
 rw [e] at h
 exact h
theorem o_hl {a b : Nat} (h : GoodT a b) : Eqn Try.prog o_96 [.d (.agg [.int .i64 a, .int .i64 b])] [] (.d (.bool true)) [] := by
 refine Eqn.pure o_98 Plain.ok ?_
 obtain ⟨h1, h2, h3⟩ := h
 have g1 : (1 : Int) ≤ a := by omega
 have g2 : (a : Int) ≤ 1023 := by omega
 have g3 : (0 : Int) ≤ b := by omega
 have g4 : (b : Int) ≤ 20 := by omega
 simp only [o_97]
 refine A10 (fs g1 (fs g2 (fs g3 g4))) ?_; try with_reducible exact tt
theorem o_hm (k a : Int) (w : Nat) (hw : w ≤ 10) : Eqn Try.prog o_al [.d (.agg [.int .i64 k, .int .i64 a, .int .i64 w])] [] (.d (.int .i64 (2 ^ w - 1 : Nat))) [] := by
 refine Eqn.pure o_an Plain.ok ?_
 have hs := o_hk w hw
 have hp : 1 ≤ 2 ^ w := Nat.one_le_two_pow
 have hp2 : 2 ^ w ≤ 2 ^ 10 := Nat.pow_le_pow_right (by omega) hw
 simp only [o_am]
 generalize 2 ^ w = S at *
 have e : IntKind.i64.wrap ((S : Int) - 1) = ((S - 1 : Nat) : Int) := by rw [w64 (by omega) (by omega)]; omega
 refine A00 ?_; try with_reducible exact tt
 refine CallS.pu (hs) (R1 e ?_); try with_reducible exact tt
theorem o_hn {k a w : Nat} (h : GoodC k a w) : Eqn Try.prog o_99 [.d (.agg [.int .i64 k, .int .i64 a, .int .i64 w])] [] (.d (.bool true)) [] := by
 refine Eqn.pure o_9b Plain.ok ?_
 obtain ⟨hk, w1, w2⟩ := h
 have hs := o_hk w w2
 have hp : 1 ≤ 2 ^ w := Nat.one_le_two_pow
 have hp2 : 2 ^ w ≤ 2 ^ 10 := Nat.pow_le_pow_right (by omega) w2
 have g1 : ¬ (w : Int) < 1 := by omega
 have g2 : ¬ (10 : Int) < w := by omega
 simp only [o_9a]
 generalize 2 ^ w = S at *
 have e : IntKind.i64.wrap ((S : Int) - 1) = ((S - 1 : Nat) : Int) := by rw [w64 (by omega) (by omega)]; omega
 rcases hk with ⟨rfl, a1, a2, hm⟩ | ⟨rfl, a1⟩ | ⟨rfl, a1, a2⟩
 ·have g3 : ¬ (a : Int) < 1 := by omega
  have g4 : ¬ (4096 : Int) < a := by omega
  have e2 : IntKind.i64.wrap ((a : Int) + 1) = ((a + 1 : Nat) : Int) := by rw [w64 (by omega) (by omega)]; omega
  refine A10 (fs g1 g2) ?_; try with_reducible exact tt
  refine CallS.pu (hs) (R1 e ?_); try with_reducible exact tt
  refine A10 (fs g3 (fs g4 e2)) ?_; try with_reducible exact tt
  have hb : bitsN (a + 1) ≤ 13 := o_bs (by omega)
  refine AW.loopT (α := Nat × Nat) 1 (fun s => [(4, .d (.int .i64 (s.2 : Nat))), (5, .d (.int .i64 (s.1 : Nat)))]) (fun s => []) (fun s => s.1 ≤ a + 1 ∧ bitsN s.1 + s.2 = bitsN (a + 1)) (fun s => s.1) (a + 1, 0) ?_ ?_ ⟨Nat.le_refl _, rfl⟩ ?_ ?_ ?_
  ·simp
  ·simp
  ·simp
  ·simp
  rintro ⟨m, c⟩ ⟨hm', hc⟩
  simp only at hm' hc
  simp
  by_cases h0 : 0 < m
  ·have h0' : (0 : Int) < m := by omega
   have hh := o_h3 h0
   have e1 : (m : Int).tdiv 2 = ((m / 2 : Nat) : Int) := by rw [Int.tdiv_eq_ediv_of_nonneg (by omega)]; omega
   have e2 : IntKind.i64.wrap ((c : Int) + 1) = ((c + 1 : Nat) : Int) := by rw [w64 (by omega) (by omega)]; omega
   have hlt : m / 2 < m := by omega
   have e3 : IntKind.i64.wrap ((m / 2 : Nat) : Int) = ((m / 2 : Nat) : Int) := w64 (by omega) (by omega)
   generalize m / 2 = q at *
   refine A10 (fs h0 (fs h0' (fs e1 (fs e2 e3)))) ?_; try with_reducible exact tt
   exact ⟨q, c + 1, ⟨by omega, by omega⟩, hlt, Sub1.int (by omega), Sub1.refl _⟩
  ·have hz : m = 0 := by omega
   subst hz
   have hcb : c = bitsN (a + 1) := by
    have : bitsN 0 = 0 := Nat.le_zero.1 (o_bs (by decide))
    omega
   have hcS : c * (S - 1) ≤ 8192 := by rw [hcb]; exact hm
   have hcI : ((c : Int) * ((S - 1 : Nat) : Int)) ≤ 8192 := by
    rw [← Int.natCast_mul]; omega
   have e4 : IntKind.i64.wrap ((c : Int) * ((S - 1 : Nat) : Int)) = (c : Int) * ((S - 1 : Nat) : Int) := w64 (by rw [← Int.natCast_mul]; omega) (by omega)
   generalize S - 1 = V at *
   refine A10 (fs e4 hcI) ?_; try with_reducible exact tt
 ·have g3 : (0 : Int) ≤ a := by omega
  have g4 : (a : Int) ≤ 8 := by omega
  refine A10 (fs g1 g2) ?_; try with_reducible exact tt
  refine CallS.pu (hs) (R1 e ?_); try with_reducible exact tt
  refine A10 (fs g3 g4) ?_; try with_reducible exact tt
 ·have g3 : (1 : Int) ≤ a := by omega
  have g4 : (a : Int) ≤ 5 := by omega
  refine A10 (fs g1 g2) ?_; try with_reducible exact tt
  refine CallS.pu (hs) (R1 e ?_); try with_reducible exact tt
  refine A10 (fs g3 g4) ?_; try with_reducible exact tt
theorem o_ho {k a b : Nat} (h : GoodR k a b) : Eqn Try.prog o_7i [.d (parD k a b)] [] (.d (.bool true)) [] := by
 refine Eqn.pure o_7k Plain.ok ?_
 simp only [o_7j, parD]
 rcases h with ⟨rfl, h⟩ | ⟨hk, h⟩
 ·have h1 := o_hl h
  refine A00 ?_; try with_reducible exact tt
  refine CallS.pu (h1) (R0 ?_); try with_reducible exact tt
 ·have h1 := o_hn h
  have hk' : ¬ ((k : Int) = 4) := by omega
  refine A10 (fs hk hk') ?_; try with_reducible exact tt
  refine CallS.pu (h1) (R0 ?_); try with_reducible exact tt
theorem o_hp {a b : Nat} (h : GoodT a b) (y t : Nat) (f : Bool) : Eqn Try.prog o_ai [.d (.agg [.int .i64 a, .int .i64 b]), .d (tsD y t f)] [] (.d (.bool (wellTB a b y t f))) [] := by
 refine Eqn.pure o_ak Plain.ok ?_
 have g0 : (0 : Int) ≤ t := by omega
 have g1 : (0 : Int) ≤ y := by omega
 simp only [o_aj, tsD, wellTB]
 by_cases hy : y ≤ a
 ·have hy' : (y : Int) ≤ a := by omega
  by_cases ht : t ≤ b
  ·have ht' : (t : Int) ≤ b := by omega
   cases f
   ·refine A10 (fs g0 (fs g1 (fs hy (fs hy' (fs ht ht'))))) ?_; try with_reducible exact tt
   ·by_cases he : t = b
    ·have he' : (t : Int) = b := by omega
     subst he
     refine A10 (fs g0 (fs g1 (fs hy hy'))) ?_; try with_reducible exact tt
    ·have he' : ¬ (t : Int) = b := by omega
     have hq : (t == b) = false := by simp [he]
     refine A10 (fs g0 (fs g1 (fs hy (fs hy' (fs ht (fs ht' (fs he (fs he' hq)))))))) ?_; try with_reducible exact tt
  ·have ht' : ¬ (t : Int) ≤ b := by omega
   have he : ¬ t = b := by omega
   have he' : ¬ (t : Int) = b := by omega
   cases f
   ·refine A10 (fs g0 (fs g1 (fs hy (fs hy' (fs ht (fs ht' (fs he he'))))))) ?_; try with_reducible exact tt
   ·refine A10 (fs g0 (fs g1 (fs hy (fs hy' (fs ht (fs ht' (fs he he'))))))) ?_; try with_reducible exact tt
 ·have hy' : ¬ (y : Int) ≤ a := by omega
  cases f
  ·refine A10 (fs g0 (fs g1 (fs hy hy'))) ?_; try with_reducible exact tt
  ·by_cases he : t = b
   ·have he' : (t : Int) = b := by omega
    subst he
    refine A10 (fs g0 (fs g1 (fs hy hy'))) ?_; try with_reducible exact tt
   ·have he' : ¬ (t : Int) = b := by omega
    refine A10 (fs g0 (fs g1 (fs hy (fs hy' (fs he he'))))) ?_; try with_reducible exact tt
end
end Go.Proofs.Ytlelpbaeplcfiaa.Am
namespace Go.Proofs.Ytlelpbaeplcfiaa.Am
section
open Go.RowKit
@[simp] theorem o_hq (l : List Bool) : (bD l).take l.length = bD l := List.take_of_length_le (by simp)

theorem o_hr {k a b : Nat} (h : GoodR k a b) (y t : Nat) (f : Bool) : Eqn Try.prog o_9f [.d (parD k a b), .d (tsD y t f)] [] (.d (.bool (wellRB k a b y t f))) [] := by
 refine Eqn.pure o_9h Plain.ok ?_
 have h1 := o_ho h
 simp only [o_9g, parD, tsD, wellRB] at h1 ⊢
 rcases h with ⟨rfl, h⟩ | ⟨hk, h⟩
 ·have h2 := o_hp h y t f
  simp only [tsD, if_true] at h2 ⊢
  generalize wellTB a b y t f = w at *
  refine A00 ?_; try with_reducible exact tt
  refine CallS.pu (h1) (R0 ?_); try with_reducible exact tt
  refine A00 ?_; try with_reducible exact tt
  refine CallS.pu (h2) (R0 ?_); try with_reducible exact tt
 ·have hk' : ¬ ((k : Int) = 4) := by omega
  have h2 := o_hm k a b h.2.2
  have g0 : (0 : Int) ≤ y := by omega
  simp only [if_neg hk]
  generalize 2 ^ b - 1 = S at *
  refine A00 ?_; try with_reducible exact tt
  refine CallS.pu (h1) (R0 ?_); try with_reducible exact tt
  refine A10 (fs hk hk') ?_; try with_reducible exact tt
  by_cases ht : t = 0
  ·subst ht
   by_cases hy : y ≤ S
   ·have hy' : (y : Int) ≤ S := by omega
    cases f
    ·refine CallS.pu (h2) (R1 (fs g0 (fs hy hy')) ?_); try with_reducible exact tt
    ·by_cases he : y = S
     ·have he' : (y : Int) = S := by omega
      subst he
      refine CallS.pu (h2) (R1 (fs g0 (fs hy hy')) ?_); try with_reducible exact tt
     ·have he' : ¬ (y : Int) = S := by omega
      have hq : (y == S) = false := by simp [he]
      have hq' : ((y : Int) == S) = false := by simp [he']
      refine CallS.pu (h2) (R1 (fs g0 (fs hy (fs hy' (fs he (fs he' (fs hq hq')))))) ?_); try with_reducible exact tt
   ·have hy' : ¬ (y : Int) ≤ S := by omega
    refine CallS.pu (h2) (R1 (fs g0 (fs hy hy')) ?_); try with_reducible exact tt
  ·have ht' : ¬ (t : Int) = 0 := by omega
   have hq : (t == 0) = false := by simp [ht]
   refine CallS.pu (h2) (R1 (fs g0 (fs ht (fs ht' hq))) ?_); try with_reducible exact tt

theorem o_hs {k a b y t : Nat} {f : Bool} (h : GoodR k a b) (hw : WellR k a b y t f) (l : List Bool) (hl : l.length ≤ 100000) (bs : List Bool) (hbs : bs = l ++ encR k a b y t f) :
  Eqn Try.prog o_76 [.d (BL l), .d (parD k a b), .d (tsD y t f)] [] (.own 0 1 bs.length) [⟨4, (bD bs).map V.d⟩] := by
 refine Eqn.gen [5] o_78 (by simp) (by simp) (by rfl) (by decide) (by simp) (by simp [o_4n]) ?_
 have hwd := o_h5 h
 obtain ⟨k0, k1⟩ := o_dz h
 have t1 := o_e0 h
 obtain ⟨f1, f2⟩ := o_e1 h hw
 have y64 : y < 18446744073709551616 := Nat.lt_of_lt_of_le f1 (Nat.le_trans (Nat.pow_le_pow_right (by omega) k1) (by decide))
 have t64 : t < 18446744073709551616 := Nat.lt_of_lt_of_le f2 (Nat.le_trans (Nat.pow_le_pow_right (by omega) t1) (by decide))
 have e1 : IntKind.u64.wrap (y : Int) = y := wu64 (by omega) (by omega)
 have e2 : IntKind.u64.wrap (t : Int) = t := wu64 (by omega) (by omega)
 have p1 := o_hf l y (kwR k a b) (by omega) f1 y64 (by omega) _ rfl (by intro h0; have := congrArg List.length h0; simp at this; omega)
 have p2 := o_hf (l ++ bitsW y (kwR k a b)) t (twR k b) (by omega) f2 t64 (by simp; omega) _ rfl (by intro h0; have := congrArg List.length h0; simp at this; omega)
 have hb2 : bs = (l ++ bitsW y (kwR k a b) ++ bitsW t (twR k b)) ++ [f] := by rw [hbs]; simp [encR]
 have hlen : (l ++ bitsW y (kwR k a b) ++ bitsW t (twR k b)).length ≤ 200000 := by simp; omega
 clear hbs f1 f2
 rw [o_hc] at p1 p2 ⊢
 generalize l ++ bitsW y (kwR k a b) ++ bitsW t (twR k b) = L2 at *
 generalize l ++ bitsW y (kwR k a b) = L1 at *
 simp only [o_77, parD, tsD] at hwd ⊢
 refine A00 ?_; try with_reducible exact tt
 refine CallS.pu (hwd) (R0 ?_); try with_reducible exact tt
 refine A10 e1 ?_; try with_reducible exact tt
 refine CallS.g [] (p1) (R1 (fs e1 e2) ?_); try with_reducible exact tt
 refine CallS.gf 2 1 ⟨4, (bD L1).map V.d⟩ (bD L1) [] (p2) (R1 (fs e1 e2) ?_); try with_reducible exact tt
 exact ⟨Sub1.of (by rw [hb2]; simp), Subs.of (by rw [hb2]; simp [bD])⟩

theorem o_ht (ws : List Nat) {k a b : Nat} (at_ : Nat) (h : GoodR k a b) (hn : ws.length ≤ 400000) (hat : at_ ≤ 8 * ws.length) (R : (Nat × Nat × Bool) × Int × Nat) (hR : R = readR ws k a b at_) :
  Eqn Try.prog o_7l [.d (BL (bitsOf ws)), .d (.int .i64 at_), .d (parD k a b)] [] (.tup [.d (tsD R.1.1 R.1.2.1 R.1.2.2), .d (.int .i64 R.2.2), .d (.int .i64 R.2.1)]) [] := by
 refine Eqn.pure o_7n Plain.ok ?_
 have hwd := o_h5 h
 have hkp := o_dz h
 have htl := o_e0 h
 have hL : (bitsOf ws).length = 8 * ws.length := o_cu ws
 have e1 : IntKind.i64.wrap ((kwR k a b : Int) + (twR k b : Int)) = ((kwR k a b + twR k b : Nat) : Int) := by rw [w64 (by omega) (by omega)]; omega
 have e2 : IntKind.i64.wrap (((kwR k a b + twR k b : Nat) : Int) + 1) = ((kwR k a b + twR k b + 1 : Nat) : Int) := by rw [w64 (by omega) (by omega)]; omega
 have e3 : IntKind.i64.wrap ((8 * ws.length : Nat) - (at_ : Int)) = (8 * ws.length - at_ : Nat) := by rw [w64 (by omega) (by omega)]; omega
 unfold readR at hR
 by_cases hend : 8 * ws.length - at_ < kwR k a b + twR k b + 1
 ·rw [if_pos hend] at hR
  subst hR
  have hi : ((8 * ws.length - at_ : Nat) : Int) < ((kwR k a b + twR k b : Nat) : Int) + 1 := by omega
  rw [o_hc, hL]
  simp only [o_7m, parD, tsD] at hwd ⊢
  generalize 8 * ws.length = NB at *
  generalize hK : kwR k a b + twR k b = KT at *
  refine A00 ?_; try with_reducible exact tt
  refine CallS.pu (hwd) (R1 (fs e1 (fs e2 (fs e3 hi))) ?_); try with_reducible exact tt
  refine A10 hi ?_; try with_reducible exact tt
 ·rw [if_neg hend] at hR
  have g1 := o_hj (bitsOf ws) at_ (kwR k a b) (by omega) (by omega) (by omega)
  have g2 := o_hj (bitsOf ws) (at_ + kwR k a b) (twR k b) (by omega) (by omega) (by omega)
  have l1 := o_hi (bitsOf ws) at_ (kwR k a b)
  have l2 := o_hi (bitsOf ws) (at_ + kwR k a b) (twR k b)
  have hwl := o_hr h (numL (bitsOf ws) at_ (kwR k a b)) (numL (bitsOf ws) (at_ + kwR k a b) (twR k b)) ((bitsOf ws).getD (at_ + kwR k a b + twR k b) false)
  change R = if wellRB k a b (numL (bitsOf ws) at_ (kwR k a b)) (numL (bitsOf ws) (at_ + kwR k a b) (twR k b)) ((bitsOf ws).getD (at_ + kwR k a b + twR k b) false) then ((numL (bitsOf ws) at_ (kwR k a b), numL (bitsOf ws) (at_ + kwR k a b) (twR k b), (bitsOf ws).getD (at_ + kwR k a b + twR k b) false), 0, at_ + kwR k a b + twR k b + 1) else ((0, 0, false), 4, at_ + kwR k a b + twR k b + 1) at hR
  have p1 : 2 ^ kwR k a b ≤ 2 ^ 10 := Nat.pow_le_pow_right (by omega) (by omega)
  have p2 : 2 ^ twR k b ≤ 2 ^ 10 := Nat.pow_le_pow_right (by omega) (by omega)
  have e4 : IntKind.i64.wrap (numL (bitsOf ws) at_ (kwR k a b) : Int) = numL (bitsOf ws) at_ (kwR k a b) := w64 (by omega) (by omega)
  have e5 : IntKind.i64.wrap (numL (bitsOf ws) (at_ + kwR k a b) (twR k b) : Int) = numL (bitsOf ws) (at_ + kwR k a b) (twR k b) := w64 (by omega) (by omega)
  have hi : ¬ ((8 * ws.length - at_ : Nat) : Int) < ((kwR k a b + twR k b : Nat) : Int) + 1 := by omega
  have e6 : IntKind.i64.wrap (((at_ + kwR k a b + twR k b : Nat) : Int) + 1) = ((at_ + kwR k a b + twR k b + 1 : Nat) : Int) := by rw [w64 (by omega) (by omega)]; omega
  have hlt : at_ + kwR k a b + twR k b < 8 * ws.length := by omega
  have hge : ∀ h, (bD (bitsOf ws))[at_ + kwR k a b + twR k b]'h = .bool ((bitsOf ws).getD (at_ + kwR k a b + twR k b) false) := fun h => by simp [bD, show at_ + kwR k a b + twR k b < 8 * ws.length from hlt]
  have hltI : ((at_ + kwR k a b + twR k b : Nat) : Int) < (8 * ws.length : Nat) := by omega
  have hBW : (bD (bitsOf ws)).length = 8 * ws.length := by rw [o_h6, hL]
  rw [o_hc, hL] at *
  simp only [parD, tsD] at hwd hwl
  generalize ((bitsOf ws).getD (at_ + kwR k a b + twR k b) false) = x at *
  generalize at_ + kwR k a b + twR k b = A2 at *
  generalize numL (bitsOf ws) at_ (kwR k a b) = X at *
  generalize numL (bitsOf ws) (at_ + kwR k a b) (twR k b) = Y at *
  generalize at_ + kwR k a b = A1 at *
  generalize bD (bitsOf ws) = BW at *
  generalize 8 * ws.length = NB at *
  by_cases hwb : wellRB k a b X Y x = true
  ·rw [if_pos hwb] at hR
   subst hR
   rw [hwb] at hwl
   simp only [o_7m, parD, tsD]
   generalize hK : kwR k a b + twR k b = KT at *
   generalize kwR k a b = K at *
   generalize twR k b = T at *
   refine A00 ?_; try with_reducible exact tt
   refine CallS.pu (hwd) (R1 (fs e1 (fs e2 (fs e3 hi))) ?_); try with_reducible exact tt
   refine A10 hi ?_; try with_reducible exact tt
   refine CallS.pu (g1) (R0 ?_); try with_reducible exact tt
   refine CallS.pu (g2) (R1 (fs e4 (fs e5 (fs hlt (fs hltI (fs hBW hge))))) ?_); try with_reducible exact tt
   refine CallS.pu (hwl) (R1 e6 ?_); try with_reducible exact tt
   refine A10 e6 ?_; try with_reducible exact tt
  ·rw [if_neg hwb] at hR
   subst hR
   rw [Bool.eq_false_iff.2 hwb] at hwl
   simp only [o_7m, parD, tsD]
   generalize hK : kwR k a b + twR k b = KT at *
   generalize kwR k a b = K at *
   generalize twR k b = T at *
   refine A00 ?_; try with_reducible exact tt
   refine CallS.pu (hwd) (R1 (fs e1 (fs e2 (fs e3 hi))) ?_); try with_reducible exact tt
   refine A10 hi ?_; try with_reducible exact tt
   refine CallS.pu (g1) (R0 ?_); try with_reducible exact tt
   refine CallS.pu (g2) (R1 (fs e4 (fs e5 (fs hlt (fs hltI (fs hBW hge))))) ?_); try with_reducible exact tt
   refine CallS.pu (hwl) (R1 e6 ?_); try with_reducible exact tt
   refine A10 e6 ?_; try with_reducible exact tt
end
end Go.Proofs.Ytlelpbaeplcfiaa.Am
namespace Go.Proofs.Ytlelpbaeplcfiaa.Am
section
open Go.RowKit
def rowOf (n s q : Nat) : V := if q = 0 then .d .nilsl else .own n s q
theorem o_hu (n s : Nat) : rowOf n s 0 = .d .nilsl := rfl
theorem o_hv {n s q : Nat} (h : q ≠ 0) : rowOf n s q = .own n s q := if_neg h
theorem o_hw (B : List Bool) (b : Bool) : (bD B).map V.d ++ [V.d (.bool b)] = (bD (B ++ [b])).map V.d := by simp [bD]
def heapB (bs : List Bool) : List (Option Ob) := if bs.length = 0 then [] else [some ⟨4, (bD bs).map V.d⟩]
theorem o_hx {bs : List Bool} (h : bs.length ≠ 0) : heapB bs = [some ⟨4, (bD bs).map V.d⟩] := if_neg h
theorem o_hy {ws : List Nat} {n : Nat} (h : n < 8 * ws.length) : (bitsOf ws).take (n + 1) = (bitsOf ws).take n ++ [decide (ws.getD (n / 8) 0 / 2 ^ (7 - n % 8) % 2 = 1)] := by
 rw [← o_cw ws n h, List.take_add_one, List.getD_eq_getElem?_getD, List.getElem?_eq_getElem (by simpa using h)]
 rfl
def btS (n : Nat) : List Nat → List Bool := fun ws => (bitsOf ws).take n
theorem o_hz {ws : List Nat} {n : Nat} (h : n ≤ 8 * ws.length) : (btS n ws).length = n := by simp [btS]; omega

abbrev slB (ws : List Nat) (bs : List Bool) (i : Nat) (j : V) : List V := [.d (.sl ws.length (ws.map fun x : Nat => .int .u8 x)), .junk, .d .nilsl, rowOf 0 1 bs.length, .d (.int .i64 (i : Nat)), j] ++ List.replicate 23 .junk
def kI (j : Nat) : Int := 7 - j
set_option maxHeartbeats 1000000 in
theorem o_i0 (ws : List Nat) (hs : smallB ws) (hn : ws.length ≤ 400000) : Eqn Try.prog o_6c [.d (BY ws)] [] (.d (BL (bitsOf ws))) [] := by
 refine Eqn.pure o_6e Plain.ok ?_
 simp only [o_6d, BY]
 refine A00 ?_; try with_reducible exact tt
 refine AW.loopG (α := Nat) (fun i => slB ws (btS (8 * i) ws) i .junk) (fun i => heapB (btS (8 * i) ws)) (fun i => i ≤ ws.length) (fun i => ws.length - i) 0 (fun i hi => by simp) (Nat.zero_le _) ?_ ?_ ?_
 ·simp [btS, rowOf]
 ·simp [btS, heapB]
 intro i hi
 by_cases hiw : i < ws.length
 ·have hiw' : (i : Int) < ws.length := by omega
  have ew : IntKind.i64.wrap ((i : Int) + 1) = ((i + 1 : Nat) : Int) := by rw [w64 (by omega) (by omega)]; omega
  have hx : ws.getD i 0 < 256 := by
   rw [List.getD_eq_getElem?_getD, List.getElem?_eq_getElem hiw]; exact hs _ (List.getElem_mem hiw)
  simp only [slB]
  simp
  refine A10 (fs hiw hiw') ?_; try with_reducible exact tt
  refine AW.loopG (α := Nat) (fun j => slB ws (btS (8 * i + j) ws) i (.d (.int .i64 (kI j)))) (fun j => heapB (btS (8 * i + j) ws)) (fun j => j ≤ 8) (fun j => 8 - j) 0 (fun i hi => by simp) (Nat.zero_le _) ?_ ?_ ?_
  ·by_cases hz : (btS (8 * i) ws).length = 0
   ·simp [kI, rowOf, heapB, hz]
   ·simp [kI, rowOf, heapB, hz]
  ·by_cases hz : (btS (8 * i) ws).length = 0
   ·simp [heapB, hz]
   ·simp [heapB, hz]
  intro j hj
  have hBl : (btS (8 * i + j) ws).length = 8 * i + j := o_hz (by omega)
  by_cases hj8 : j < 8
  ·have hk : kI j = ((7 - j : Nat) : Int) := by unfold kI; omega
   have hk1 : kI (j + 1) = kI j - 1 := by unfold kI; omega
   have hst : btS (8 * i + (j + 1)) ws = btS (8 * i + j) ws ++ [decide (ws.getD i 0 / 2 ^ (7 - j) % 2 = 1)] := by
    have := o_hy (ws := ws) (n := 8 * i + j) (by omega)
    rw [show (8 * i + j) / 8 = i by omega, show (8 * i + j) % 8 = j by omega] at this
    exact this
   have hg : ∀ h, ws[i]'h = ws.getD i 0 := fun h => by simp [hiw]
   have hS : (0 : Int) ≤ ((7 - j : Nat) : Int) := by omega
   have hS8 : ((7 - j : Nat) : Int) ≤ 8 := by omega
   have e1 : IntKind.u64.wrap ((7 - j : Nat) : Int) = ((7 - j : Nat) : Int) := wu64 (by omega) (by omega)
   have ek : IntKind.i64.wrap (((7 - j : Nat) : Int) - 1) = kI (j + 1) := by rw [hk1, hk, w64 (by omega) (by omega)]
   have e5 : ((ws.getD i 0 : Nat) : Int) / 2 ^ (7 - j) = ((ws.getD i 0 / 2 ^ (7 - j) : Nat) : Int) := by rw [Int.natCast_ediv, Int.natCast_pow]; rfl
   rw [hk]
   generalize 7 - j = S at *
   generalize ws.getD i 0 = x at *
   generalize x / 2 ^ S = X at *
   have e6 : (((X : Int).tmod 2 == 1) : Bool) = decide (X % 2 = 1) := by rw [Int.tmod_eq_emod_of_nonneg (by omega)]; by_cases hh : X % 2 = 1 <;> simp [hh] <;> omega
   obtain ⟨B, hB⟩ : ∃ B, B = btS (8 * i + j) ws := ⟨_, rfl⟩
   rw [← hB] at hst hBl ⊢
   have hq' : i < (ws.map fun x : Nat => D.int .u8 x).length := by simpa using hiw
   by_cases hz : B.length = 0
   ·have hB0 : B = [] := List.eq_nil_of_length_eq_zero hz
    subst hB0
    simp only [slB, heapB, o_hu, List.length_nil, if_true]
    simp
    refine A10 (fs hiw (fs hiw' (fs hS (fs hS8 (fs e1 (fs e5 (fs e6 (fs hg ek)))))))) ?_; try with_reducible exact tt
    rw [List.nil_append] at hst
    refine ⟨j + 1, 0, 1, by simp, by omega, by omega, ?_, ?_⟩
    ·rw [hst]; simp [swT, swH, sw, Ob.sw, V.ren, V.rens, rowOf]
    ·rw [hst]; simp [swT, swH, sw, Ob.sw, V.ren, V.rens, heapB, bD]
   ·simp only [slB, o_hx hz, o_hv hz]
    simp
    refine A10 (fs hiw (fs hiw' (fs hS (fs hS8 (fs e1 (fs e5 (fs e6 (fs hg ek)))))))) ?_; try with_reducible exact tt
    refine ⟨j + 1, 0, 2, by simp, by omega, by omega, ?_, ?_⟩
    ·rw [hst]; simp [swT, swH, sw, Ob.sw, V.ren, V.rens, rowOf, heapB]
    ·rw [hst]; simp [swT, swH, sw, Ob.sw, V.ren, V.rens, heapB, o_hw]
  ·have hj0 : j = 8 := by omega
   subst hj0
   have hk : kI 8 = -1 := rfl
   rw [hk]
   simp only [slB]
   simp
   refine A10 ew ?_; try with_reducible exact tt
   have hz : (btS (8 * i + 8) ws).length ≠ 0 := by omega
   have e8 : 8 * (i + 1) = 8 * i + 8 := by omega
   refine ⟨i + 1, 0, 0, by simp [o_hx hz], by omega, by omega, ?_, ?_⟩
   ·rw [e8, o_hv hz, o_hx hz]; simp [swT, swH, sw, Ob.sw, V.ren, V.rens]
   ·rw [e8, o_hx hz]; simp [swT, swH, sw, Ob.sw, V.ren, V.rens]
 ·have h2 : i = ws.length := by omega
  subst h2
  have hb : btS (8 * ws.length) ws = bitsOf ws := List.take_of_length_le (by simp)
  rw [hb]
  by_cases hz : (bitsOf ws).length = 0
  ·have hB0 : bitsOf ws = [] := List.eq_nil_of_length_eq_zero hz
   have hl0 : ws = [] := List.eq_nil_of_length_eq_zero (by rw [o_cu] at hz; omega)
   subst hl0
   simp only [slB, heapB, o_hu, bitsOf, List.length_nil, if_true]
   simp
   refine A00 ?_; try with_reducible exact tt
   exact Sub1.nil
  ·simp only [slB, o_hx hz, o_hv hz]
   refine AW.freeze 0 1 ⟨4, (bD (bitsOf ws)).map V.d⟩ (bD (bitsOf ws)) (by simp) rfl ?_
   rw [o_hc]
   have htk := o_hq (bitsOf ws)
   rw [o_cu] at htk
   simp [htk]
   refine A00 ?_; try with_reducible exact tt
end
end Go.Proofs.Ytlelpbaeplcfiaa.Am
namespace Go.Proofs.Ytlelpbaeplcfiaa.Am
section
open Go.RowKit
def yD (ws : List Nat) : List D := ws.map fun x : Nat => .int .u8 x
@[simp] theorem o_i1 (ws : List Nat) : (yD ws).length = ws.length := by simp [yD]
@[simp] theorem o_i2 (n : Nat) (ws : List Nat) : V.lowl n ((yD ws).map V.d) = true := o_4n n _
@[simp] theorem o_i3 (θ : Nat → Nat) (ws : List Nat) : V.rens θ ((yD ws).map V.d) = (yD ws).map V.d := o_4m θ _
@[simp] theorem o_i4 (l : List Nat) : (yD l).take l.length = yD l := List.take_of_length_le (by simp)
theorem o_i5 (B : List Nat) (b : Nat) : (yD B).map V.d ++ [V.d (.int .u8 b)] = (yD (B ++ [b])).map V.d := by simp [yD]
theorem o_i6 (ws : List Nat) : BY ws = .sl ws.length (yD ws) := rfl
def heapY (ws : List Nat) : List (Option Ob) := if ws.length = 0 then [] else [some ⟨5, (yD ws).map V.d⟩]
theorem o_i7 {ws : List Nat} (h : ws.length ≠ 0) : heapY ws = [some ⟨5, (yD ws).map V.d⟩] := if_neg h

def partB (bs : List Bool) (i k : Nat) : Nat := numB ((List.range k).map fun j => bs.getD (i + j) false) 0
theorem o_i8 (bs : List Bool) (i : Nat) : partB bs i 0 = 0 := rfl
theorem o_i9 (bs : List Bool) (i k : Nat) : partB bs i (k + 1) = 2 * partB bs i k + b2n (bs.getD (i + k) false) := by
 unfold partB
 rw [List.range_succ, List.map_append, o_ce]; rfl
theorem o_ia (bs : List Bool) (i k : Nat) : partB bs i k < 2 ^ k := by
 have := o_cg ((List.range k).map fun j => bs.getD (i + j) false)
 simpa [partB] using this
theorem o_ib (bs : List Bool) (i : Nat) (h : i % 8 = 0) : partB bs i 8 = byteAt bs (i / 8) := by
 have e : 8 * (i / 8) = i := by omega
 unfold byteAt bit
 rw [e]
 simp only [o_i9, o_i8, Nat.add_zero, Nat.mul_zero, Nat.zero_add]
 omega
def byS (bs : List Bool) (i : Nat) : List Nat := (bytesOf bs).take (i / 8)
theorem o_ic {bs : List Bool} {i : Nat} (h8 : i % 8 = 0) (h : i < bs.length + 8) : (byS bs i).length = i / 8 := by simp [byS]; omega
theorem o_id {bs : List Bool} {i : Nat} (h8 : i % 8 = 0) (h : i < bs.length) : byS bs (i + 8) = byS bs i ++ [byteAt bs (i / 8)] := by
 unfold byS
 rw [show (i + 8) / 8 = i / 8 + 1 by omega, List.take_add_one, bytesOf, List.getElem?_map, List.getElem?_range (by omega)]
 rfl
abbrev slY (bs : List Bool) (ws : List Nat) (i : Nat) : List V := [.d (.sl bs.length (bD bs)), .junk, .d .nilsl, rowOf 0 1 ws.length, .d (.int .i64 (i : Nat))] ++ List.replicate 36 .junk
set_option maxHeartbeats 1000000 in
theorem o_ie (bs : List Bool) (hn : bs.length ≤ 400000) : Eqn Try.prog o_63 [.d (BL bs)] [] (.d (BY (bytesOf bs))) [] := by
 refine Eqn.pure o_65 Plain.ok ?_
 rw [o_hc, o_i6]
 simp only [o_64]
 refine A00 ?_; try with_reducible exact tt
 refine AW.loopG (α := Nat) (fun i => slY bs (byS bs i) i) (fun i => heapY (byS bs i)) (fun i => i % 8 = 0 ∧ i < bs.length + 8) (fun i => bs.length + 8 - i) 0 (fun i hi => by simp) ⟨rfl, by omega⟩ ?_ ?_ ?_
 ·simp [byS, rowOf]
 ·simp [byS, heapY]
 rintro i ⟨hi8, hi⟩
 have hbl := o_ic hi8 hi
 by_cases hib : i < bs.length
 ·have hib' : (i : Int) < bs.length := by omega
  have hnx := o_id hi8 hib
  have e8 : IntKind.i64.wrap ((i : Int) + 8) = ((i + 8 : Nat) : Int) := by rw [w64 (by omega) (by omega)]; omega
  have hby := o_ib bs i hi8
  have hb256 := o_cl bs (i / 8)
  rw [← hby] at hnx hb256
  obtain ⟨B, hB⟩ : ∃ B, B = byS bs i := ⟨_, rfl⟩
  rw [← hB] at hnx hbl ⊢
  have eu : IntKind.u8.wrap (partB bs i 8 : Int) = partB bs i 8 := by rw [IntKind.wrap_u8]; omega
  by_cases hz : B.length = 0
  ·have hB0 : B = [] := List.eq_nil_of_length_eq_zero hz
   subst hB0
   rw [List.nil_append] at hnx
   simp only [slY, heapY, o_hu, List.length_nil, if_true]
   simp
   refine A10 (fs hib hib') ?_; try with_reducible exact tt
   refine AW.loopT (α := Nat) 0 (fun k => [(5, .d (.int .i64 (partB bs i k : Nat))), (6, .d (.int .i64 (k : Nat)))]) (fun k => []) (fun k => k ≤ 8) (fun k => 8 - k) 0 ?_ ?_ (Nat.zero_le _) ?_ ?_ ?_
   ·simp
   ·simp
   ·simp [o_i8]
   ·simp
   intro k hk
   simp
   by_cases hk8 : k < 8
   ·have hk8' : (k : Int) < 8 := by omega
    have hs := o_i9 bs i k
    have hlt := o_ia bs i k
    have hp : 2 ^ k ≤ 2 ^ 8 := Nat.pow_le_pow_right (by omega) (by omega)
    have ew : IntKind.i64.wrap ((k : Int) + 1) = ((k + 1 : Nat) : Int) := by rw [w64 (by omega) (by omega)]; omega
    have e4 : IntKind.i64.wrap ((i : Int) + k) = ((i + k : Nat) : Int) := by rw [w64 (by omega) (by omega)]; omega
    obtain ⟨N1, hN1⟩ : ∃ N1, N1 = partB bs i (k + 1) := ⟨_, rfl⟩
    rw [← hN1] at hs
    generalize partB bs i k = N0 at *
    have e5 : IntKind.i64.wrap (2 * (N0 : Int)) = ((2 * N0 : Nat) : Int) := by rw [w64 (by omega) (by omega)]; omega
    have e6 : IntKind.i64.wrap (2 * (N0 : Int) + 1) = ((2 * N0 + 1 : Nat) : Int) := by rw [w64 (by omega) (by omega)]; omega
    by_cases hin : i + k < bs.length
    ·have hin' : (i : Int) + k < bs.length := by omega
     have etn : ((i : Int) + k).toNat = i + k := by omega
     have hge : ∀ h, (bD bs)[i + k]'h = .bool (bs.getD (i + k) false) := fun h => by simp [bD, hin]
     generalize bs.getD (i + k) false = x at *
     cases x
     ·refine A10 (fs hk8 (fs hk8' (fs ew (fs e4 (fs e5 (fs e6 (fs hin (fs hin' (fs etn hge))))))))) ?_; try with_reducible exact tt
      exact ⟨k + 1, by omega, by omega, Sub1.int (by rw [← hN1]; simp [b2n] at hs; omega), Sub1.int (by omega)⟩
     ·refine A10 (fs hk8 (fs hk8' (fs ew (fs e4 (fs e5 (fs e6 (fs hin (fs hin' (fs etn hge))))))))) ?_; try with_reducible exact tt
      exact ⟨k + 1, by omega, by omega, Sub1.int (by rw [← hN1]; simp [b2n] at hs; omega), Sub1.int (by omega)⟩
    ·have hin' : ¬ (i : Int) + k < bs.length := by omega
     have hx : bs.getD (i + k) false = false := by simp [List.getD_eq_getElem?_getD, List.getElem?_eq_none (Nat.le_of_not_lt hin)]
     rw [hx] at hs
     refine A10 (fs hk8 (fs hk8' (fs ew (fs e4 (fs e5 (fs e6 (fs hin hin'))))))) ?_; try with_reducible exact tt
     exact ⟨k + 1, by omega, by omega, Sub1.int (by rw [← hN1]; simp [b2n] at hs; omega), Sub1.int (by omega)⟩
   ·have hk0 : k = 8 := by omega
    subst hk0
    clear hk hk8
    generalize partB bs i 8 = Z at *
    refine A10 (fs e8 eu) ?_; try with_reducible exact tt
    refine ⟨i + 8, 0, 1, by simp, ⟨by omega, by omega⟩, by omega, ?_, ?_⟩
    ·rw [hnx]; simp [swT, swH, sw, Ob.sw, V.ren, V.rens, rowOf]
    ·rw [hnx]; simp [swT, swH, sw, Ob.sw, V.ren, V.rens, heapY, yD]
  ·simp only [slY, o_i7 hz, o_hv hz]
   simp
   refine A10 (fs hib hib') ?_; try with_reducible exact tt
   refine AW.loopT (α := Nat) 1 (fun k => [(5, .d (.int .i64 (partB bs i k : Nat))), (6, .d (.int .i64 (k : Nat)))]) (fun k => []) (fun k => k ≤ 8) (fun k => 8 - k) 0 ?_ ?_ (Nat.zero_le _) ?_ ?_ ?_
   ·simp
   ·simp
   ·simp [o_i8]
   ·simp
   intro k hk
   simp
   by_cases hk8 : k < 8
   ·have hk8' : (k : Int) < 8 := by omega
    have hs := o_i9 bs i k
    have hlt := o_ia bs i k
    have hp : 2 ^ k ≤ 2 ^ 8 := Nat.pow_le_pow_right (by omega) (by omega)
    have ew : IntKind.i64.wrap ((k : Int) + 1) = ((k + 1 : Nat) : Int) := by rw [w64 (by omega) (by omega)]; omega
    have e4 : IntKind.i64.wrap ((i : Int) + k) = ((i + k : Nat) : Int) := by rw [w64 (by omega) (by omega)]; omega
    obtain ⟨N1, hN1⟩ : ∃ N1, N1 = partB bs i (k + 1) := ⟨_, rfl⟩
    rw [← hN1] at hs
    generalize partB bs i k = N0 at *
    have e5 : IntKind.i64.wrap (2 * (N0 : Int)) = ((2 * N0 : Nat) : Int) := by rw [w64 (by omega) (by omega)]; omega
    have e6 : IntKind.i64.wrap (2 * (N0 : Int) + 1) = ((2 * N0 + 1 : Nat) : Int) := by rw [w64 (by omega) (by omega)]; omega
    by_cases hin : i + k < bs.length
    ·have hin' : (i : Int) + k < bs.length := by omega
     have etn : ((i : Int) + k).toNat = i + k := by omega
     have hge : ∀ h, (bD bs)[i + k]'h = .bool (bs.getD (i + k) false) := fun h => by simp [bD, hin]
     generalize bs.getD (i + k) false = x at *
     cases x
     ·refine A10 (fs hk8 (fs hk8' (fs ew (fs e4 (fs e5 (fs e6 (fs hin (fs hin' (fs etn hge))))))))) ?_; try with_reducible exact tt
      exact ⟨k + 1, by omega, by omega, Sub1.int (by rw [← hN1]; simp [b2n] at hs; omega), Sub1.int (by omega)⟩
     ·refine A10 (fs hk8 (fs hk8' (fs ew (fs e4 (fs e5 (fs e6 (fs hin (fs hin' (fs etn hge))))))))) ?_; try with_reducible exact tt
      exact ⟨k + 1, by omega, by omega, Sub1.int (by rw [← hN1]; simp [b2n] at hs; omega), Sub1.int (by omega)⟩
    ·have hin' : ¬ (i : Int) + k < bs.length := by omega
     have hx : bs.getD (i + k) false = false := by simp [List.getD_eq_getElem?_getD, List.getElem?_eq_none (Nat.le_of_not_lt hin)]
     rw [hx] at hs
     refine A10 (fs hk8 (fs hk8' (fs ew (fs e4 (fs e5 (fs e6 (fs hin hin'))))))) ?_; try with_reducible exact tt
     exact ⟨k + 1, by omega, by omega, Sub1.int (by rw [← hN1]; simp [b2n] at hs; omega), Sub1.int (by omega)⟩
   ·have hk0 : k = 8 := by omega
    subst hk0
    clear hk hk8
    generalize partB bs i 8 = Z at *
    refine A10 (fs e8 eu) ?_; try with_reducible exact tt
    refine ⟨i + 8, 0, 2, by simp, ⟨by omega, by omega⟩, by omega, ?_, ?_⟩
    ·rw [hnx]; simp [swT, swH, sw, Ob.sw, V.ren, V.rens, rowOf, heapY]
    ·rw [hnx]; simp [swT, swH, sw, Ob.sw, V.ren, V.rens, heapY, o_i5]
 ·have hib' : ¬ (i : Int) < bs.length := by omega
  have hb : byS bs i = bytesOf bs := List.take_of_length_le (by simp; omega)
  rw [hb]
  by_cases hz : (bytesOf bs).length = 0
  ·have hB0 : bytesOf bs = [] := List.eq_nil_of_length_eq_zero hz
   have hl0 : bs = [] := List.eq_nil_of_length_eq_zero (by rw [o_cm] at hz; omega)
   subst hl0
   rw [hB0]
   have hib2 : ¬ (i : Int) < 0 := by omega
   simp only [slY, heapY, o_hu, List.length_nil, if_true]
   simp
   refine A10 (fs hib (fs hib' hib2)) ?_; try with_reducible exact tt
   exact Sub1.nil
  ·simp only [slY, o_i7 hz, o_hv hz]
   refine AW.freeze 0 1 ⟨5, (yD (bytesOf bs)).map V.d⟩ (yD (bytesOf bs)) (by simp) rfl ?_
   have htk := o_i4 (bytesOf bs)
   rw [o_cm] at htk
   simp [htk]
   refine A10 (fs hib hib') ?_; try with_reducible exact tt
end
end Go.Proofs.Ytlelpbaeplcfiaa.Am
namespace Go.Proofs.Ytlelpbaeplcfiaa.Am
section
open Go.RowKit
theorem o_if (ws : List Nat) (hn : ws.length ≤ 4000000) : Eqn Try.prog o_60 [.d (BY ws), .d (BY ws)] [] (.d (.bool true)) [] := by
 refine Eqn.pure o_62 Plain.ok ?_
 rw [o_i6]
 simp only [o_61]
 refine A00 ?_; try with_reducible exact tt
 refine AW.loopT (α := Nat) 0 (fun i => [(5, .d (.int .i64 (i : Nat)))]) (fun i => []) (fun i => i ≤ ws.length) (fun i => ws.length - i) 0 ?_ ?_ (Nat.zero_le _) ?_ ?_ ?_
 ·simp
 ·simp
 ·simp
 ·simp
 intro i hi
 simp
 by_cases hiw : i < ws.length
 ·have hiw' : (i : Int) < ws.length := by omega
  have ew : IntKind.i64.wrap ((i : Int) + 1) = ((i + 1 : Nat) : Int) := by rw [w64 (by omega) (by omega)]; omega
  have hge : ∀ h, (yD ws)[i]'h = .int .u8 (ws.getD i 0 : Nat) := fun h => by simp [yD, hiw]
  generalize ws.getD i 0 = x at *
  refine A10 (fs hiw (fs hiw' (fs ew hge))) ?_; try with_reducible exact tt
  exact ⟨i + 1, by omega, by omega, Sub1.int (by omega)⟩
 ·have : i = ws.length := by omega
  subst this
  refine A00 ?_; try with_reducible exact tt

def encL (k a b : Nat) (l : List ST) : List Bool := l.flatMap fun s => encR k a b s.1 s.2.1 s.2.2
theorem o_ig (k a b : Nat) (l : List ST) : (encL k a b l).length = l.length * wdR k a b := by
 induction l with
 | nil => simp [encL]
 | cons s l ih =>
  rw [show encL k a b (s :: l) = encR k a b s.1 s.2.1 s.2.2 ++ encL k a b l from rfl, List.length_append, ih, o_e5, List.length_cons, Nat.succ_mul, wdR]; omega
theorem o_ih (k a b : Nat) (l : List ST) (s : ST) : encL k a b (l ++ [s]) = encL k a b l ++ encR k a b s.1 s.2.1 s.2.2 := by simp [encL]
theorem o_ii (k a b : Nat) (l : List ST) : packBits (wdR k a b) (encs k a b l) = encL k a b l := by
 simp only [packBits, encs, encL, List.flatMap_map]
 congr 1
 funext s
 exact o_f9 k a b s.1 s.2.1 s.2.2
theorem o_ij {k a b : Nat} (h : GoodR k a b) (l : List ST) (hw : wells k a b l) (hl : l.length ≤ 256) :
  Eqn Try.prog o_5f [.d (parD k a b), .d (.sl l.length (stL l))] [] (.d (BL (encL k a b l))) [] := by
 refine Eqn.pure o_5h Plain.ok ?_
 rw [o_hc]
 simp only [o_5g, parD]
 refine A00 ?_; try with_reducible exact tt
 refine AW.loopT (α := Nat) 1 (fun i => [(5, .d (BL (encL k a b (l.take i)))), (6, .d (.int .i64 (i : Nat)))]) (fun i => []) (fun i => i ≤ l.length) (fun i => l.length - i) 0 ?_ ?_ (Nat.zero_le _) ?_ ?_ ?_
 ·simp
 ·simp
 ·simp; exact Sub1.nil
 ·simp
 intro i hi
 simp
 by_cases hiw : i < l.length
 ·have hiw' : (i : Int) < l.length := by omega
  have ew : IntKind.i64.wrap ((i : Int) + 1) = ((i + 1 : Nat) : Int) := by rw [w64 (by omega) (by omega)]; omega
  have hwi := o_fh hw hiw
  have hwd := o_fa h
  have hEl : (encL k a b (l.take i)).length ≤ 100000 := by
   rw [o_ig, List.length_take, Nat.min_eq_left (by omega)]
   exact Nat.le_trans (Nat.mul_le_mul (show i ≤ 256 by omega) hwd.2) (by decide)
  have hwr := o_hs (bs := encL k a b (l.take (i + 1))) h hwi (encL k a b (l.take i)) hEl (by
   have e : l.take (i + 1) = l.take i ++ [l.getD i (0, 0, false)] := by
    rw [List.take_add_one, List.getElem?_eq_getElem hiw, List.getD_eq_getElem?_getD, List.getElem?_eq_getElem hiw]; rfl
   rw [e]; exact o_ih _ _ _ _ _)
  have hsg := o_gc l i hiw
  have hsl := o_ga l
  generalize l.getD i (0, 0, false) = s at *
  obtain ⟨y, t, f⟩ := s
  simp only [parD, tsD] at hwr hsg
  obtain ⟨E1, hE1⟩ : ∃ E, E = encL k a b (l.take (i + 1)) := ⟨_, rfl⟩
  rw [← hE1] at hwr
  have hb : (i : Int) * 3 + 3 ≤ 3 * l.length := by omega
  have hb' : i * 3 + 3 ≤ 3 * l.length := by omega
  refine A10 (fs hiw (fs hiw' (fs hsg (fs hsl (fs hb hb'))))) ?_; try with_reducible exact tt
  refine CallS.g [] (hwr) ?_
  simp
  refine need.of (by first | omega | kernel_rfl) ?_
  refine AW.freeze 1 1 ⟨4, (bD E1).map V.d⟩ (bD E1) (by rfl) rfl ?_
  simp
  refine A10 ew ?_; try with_reducible exact tt
  exact ⟨i + 1, by omega, by omega, Sub1.of (by rw [← hE1]; rfl), Sub1.int (by omega)⟩
 ·have : i = l.length := by omega
  subst this
  rw [List.take_length, o_hc]
  refine A00 ?_; try with_reducible exact tt
end
end Go.Proofs.Ytlelpbaeplcfiaa.Am
namespace Go.Proofs.Ytlelpbaeplcfiaa.Am
section
open Go.RowKit
theorem o_ik {ws : List Nat} {k a b at_ : Nat} : ∀ n, (readA ws k a b at_ n).e ≠ 0 → ∃ i, i < n ∧ (readA ws k a b at_ i).e = 0 ∧ (readR ws k a b (readA ws k a b at_ i).p).2.1 = (readA ws k a b at_ n).e
 | 0, h => absurd rfl h
 | n + 1, h => by
  by_cases h0 : (readA ws k a b at_ n).e = 0
  ·refine ⟨n, by omega, h0, ?_⟩
   rw [readA, if_pos h0] at h ⊢
   by_cases hz : (readR ws k a b (readA ws k a b at_ n).p).2.1 = 0
   ·rw [if_pos hz] at h; exact absurd rfl h
   ·rw [if_neg hz]
  ·obtain ⟨i, h1, h2, h3⟩ := o_ik n h0
   refine ⟨i, by omega, h2, ?_⟩
   rw [h3, readA, if_neg h0]
theorem o_il {ws : List Nat} {k a b at_ i j : Nat} (hi : (readA ws k a b at_ i).e = 0) (hij : i < j) (hz : (readR ws k a b (readA ws k a b at_ i).p).2.1 ≠ 0) : (readA ws k a b at_ j).e ≠ 0 := by
 have h1 : (readA ws k a b at_ (i + 1)).e ≠ 0 := by rw [readA, if_pos hi, if_neg hz]; exact hz
 obtain ⟨d, rfl⟩ : ∃ d, j = i + 1 + d := ⟨j - (i + 1), by omega⟩
 rw [o_gz h1]; exact h1

abbrev slR (ws : List Nat) (k a b n : Nat) (i : Nat) (p : Nat) : List V := [.d (BL (bitsOf ws)), .d (.int .i64 p), .d (.agg [.int .i64 k, .int .i64 a, .int .i64 b]), .d (.int .i64 n), .junk, .junk, .p 0 0, .junk, .d .nilsl, .d (.int .i64 0), .d (.int .i64 0), rowOf 1 3 i, .d (.int .i64 (i : Nat))] ++ List.replicate 39 .junk
def heapR (k a b : Nat) (l : List ST) : List (Option Ob) := if l.length = 0 then [some ⟨23, [.d (.int .i64 k), .d (.int .i64 a), .d (.int .i64 b)]⟩] else [some ⟨23, [.d (.int .i64 k), .d (.int .i64 a), .d (.int .i64 b)]⟩, some ⟨28, stV l⟩]
theorem o_im {k a b : Nat} {l : List ST} (h : l.length ≠ 0) : heapR k a b l = [some ⟨23, [.d (.int .i64 k), .d (.int .i64 a), .d (.int .i64 b)]⟩, some ⟨28, stV l⟩] := if_neg h
set_option maxHeartbeats 2000000 in
theorem o_in {k a b n : Nat} (h : GoodR k a b) (n1 : 1 ≤ n) (n2 : n ≤ 256) (ws : List Nat) (hn : ws.length ≤ 400000) (S : AR) (hS : S = readA ws k a b 0 n) :
  (S.e = 0 → Eqn Try.prog o_69 [.d (BL (bitsOf ws)), .d (.int .i64 0), .d (parD k a b), .d (.int .i64 n)] [] (.tup [.d (.sl n (stL S.l)), .d (.int .i64 S.p), .d (.int .i64 0)]) []) ∧
  (S.e ≠ 0 → ∃ q : Nat, Eqn Try.prog o_69 [.d (BL (bitsOf ws)), .d (.int .i64 0), .d (parD k a b), .d (.int .i64 n)] [] (.tup [.d .nilsl, .d (.int .i64 q), .d (.int .i64 S.e)]) []) := by
 have hg := o_ho h
 have hgood := o_h1 (ws := ws) (k := k) (a := a) (b := b) (at_ := 0) (Nat.zero_le _)
 have g1 : ¬ (n : Int) < 1 := by omega
 have g2 : ¬ (256 : Int) < n := by omega
 constructor
 ·intro he
  refine Eqn.pure o_6b Plain.ok ?_
  simp only [o_6a, parD] at hg ⊢
  refine A00 ?_; try with_reducible exact tt
  refine CallS.pu (hg) (R1 (fs g1 g2) ?_); try with_reducible exact tt
  refine A10 (fs g1 g2) ?_; try with_reducible exact tt
  refine AW.loopG (α := Nat) (fun i => slR ws k a b n i (readA ws k a b 0 i).p) (fun i => heapR k a b (readA ws k a b 0 i).l) (fun i => i ≤ n ∧ (readA ws k a b 0 i).e = 0) (fun i => n - i) 0 (fun i hi => by simp) ⟨Nat.zero_le _, rfl⟩ ?_ ?_ ?_
  ·simp [rowOf, readA, heapR]
  ·simp [readA, heapR]
  rintro i ⟨hi, hie⟩
  obtain ⟨gp, gw, gl⟩ := hgood i
  replace gl := gl hie
  have hrd := o_ht ws (k := k) (a := a) (b := b) (readA ws k a b 0 i).p h hn gp _ rfl
  have ew : IntKind.i64.wrap ((i : Int) + 1) = ((i + 1 : Nat) : Int) := by rw [w64 (by omega) (by omega)]; omega
  by_cases hin : i < n
  ·have hz : (readR ws k a b (readA ws k a b 0 i).p).2.1 = 0 := by
    by_cases hz : (readR ws k a b (readA ws k a b 0 i).p).2.1 = 0
    ·exact hz
    ·exact absurd he (by rw [hS]; exact o_il hie hin hz)
   have hst : readA ws k a b 0 (i + 1) = ⟨0, (readA ws k a b 0 i).l ++ [(readR ws k a b (readA ws k a b 0 i).p).1], (readR ws k a b (readA ws k a b 0 i).p).2.2⟩ := by
    rw [readA, if_pos hie, if_pos hz]
   rw [hz] at hrd
   have hin' : (i : Int) < n := by omega
   have hse : (readA ws k a b 0 (i + 1)).e = 0 := by rw [hst]
   have hsp : (readA ws k a b 0 (i + 1)).p = (readR ws k a b (readA ws k a b 0 i).p).2.2 := by rw [hst]
   have hsl : (readA ws k a b 0 (i + 1)).l = (readA ws k a b 0 i).l ++ [(readR ws k a b (readA ws k a b 0 i).p).1] := by rw [hst]
   clear hst hz
   generalize readR ws k a b (readA ws k a b 0 i).p = Q at *
   obtain ⟨⟨q1, q2, q3⟩, qe, qp⟩ := Q
   obtain ⟨P, hP⟩ : ∃ P, P = (readA ws k a b 0 i).p := ⟨_, rfl⟩
   obtain ⟨ls, hls⟩ : ∃ ls, ls = (readA ws k a b 0 i).l := ⟨_, rfl⟩
   rw [← hP] at hrd ⊢
   rw [← hls] at gl hsl ⊢
   simp only [parD, tsD] at hrd hsp hsl
   by_cases hi0 : i = 0
   ·have hls0 : ls = [] := List.eq_nil_of_length_eq_zero (by omega)
    subst hi0 hls0
    simp only [slR, heapR, o_hu, List.length_nil, if_true]
    simp
    refine A10 (fs hin hin') ?_; try with_reducible exact tt
    refine CallS.pu (hrd) (R1 ew ?_); try with_reducible exact tt
    refine A10 ew ?_; try with_reducible exact tt
    simp only [Nat.zero_add, List.nil_append] at hse hsp hsl
    refine ⟨1, 1, 3, by simp, ⟨by omega, hse⟩, by omega, ?_, ?_⟩
    ·rw [hsl, hsp]; simp [swT, swH, sw, Ob.sw, V.ren, V.rens, rowOf]
    ·rw [hsl]; simp [swT, swH, sw, Ob.sw, V.ren, V.rens, stV, stL]
   ·have hlz : ls.length ≠ 0 := by omega
    have hlc : (stV ls).length = i * 3 := by rw [o_gh]; omega
    have hsn := o_gg ls (q1, q2, q3)
    rw [← hsl] at hsn
    simp only [slR, o_im hlz, o_hv hi0]
    generalize hX : stV ls = X at *
    simp
    refine A10 (fs hin hin') ?_; try with_reducible exact tt
    refine CallS.pu (hrd) (R1 (fs ew hlc) ?_); try with_reducible exact tt
    refine A10 (fs ew hlc) ?_; try with_reducible exact tt
    have hl1 : (readA ws k a b 0 (i + 1)).l.length ≠ 0 := by rw [hsl]; simp
    refine ⟨i + 1, 1, 4, by simp, ⟨by omega, hse⟩, by omega, ?_, ?_⟩
    ·rw [hsp, o_im hl1]; simp [swT, swH, sw, Ob.sw, V.ren, V.rens, rowOf]
    ·rw [o_im hl1]; simp [swT, swH, sw, Ob.sw, V.ren, V.rens, hsn]
  ·have h2 : i = n := by omega
   subst h2
   have hi0 : i ≠ 0 := by omega
   rw [← hS] at gl ⊢
   have hlz : S.l.length ≠ 0 := by omega
   simp only [slR, o_im hlz, o_hv hi0]
   refine AW.freeze 1 3 ⟨28, stV S.l⟩ (stL S.l) (by rfl) rfl ?_
   have htk : (stL S.l).take (i * 3) = stL S.l := List.take_of_length_le (by rw [o_ga]; omega)
   simp [htk]
   refine A00 ?_; try with_reducible exact tt
   done
 ·intro he
  obtain ⟨f, f1, f2, f3⟩ := o_ik (ws := ws) (k := k) (a := a) (b := b) (at_ := 0) n (by rw [← hS]; exact he)
  refine ⟨(readA ws k a b 0 f).p, ?_⟩
  refine Eqn.pure o_6b Plain.ok ?_
  simp only [o_6a, parD] at hg ⊢
  refine A00 ?_; try with_reducible exact tt
  refine CallS.pu (hg) (R1 (fs g1 g2) ?_); try with_reducible exact tt
  refine A10 (fs g1 g2) ?_; try with_reducible exact tt
  refine AW.loopG (α := Nat) (fun i => slR ws k a b n i (readA ws k a b 0 i).p) (fun i => heapR k a b (readA ws k a b 0 i).l) (fun i => i ≤ n ∧ (readA ws k a b 0 i).e = 0) (fun i => n - i) 0 (fun i hi => by simp) ⟨Nat.zero_le _, rfl⟩ ?_ ?_ ?_
  ·simp [rowOf, readA, heapR]
  ·simp [readA, heapR]
  rintro i ⟨hi, hie⟩
  obtain ⟨gp, gw, gl⟩ := hgood i
  replace gl := gl hie
  have hrd := o_ht ws (k := k) (a := a) (b := b) (readA ws k a b 0 i).p h hn gp _ rfl
  have ew : IntKind.i64.wrap ((i : Int) + 1) = ((i + 1 : Nat) : Int) := by rw [w64 (by omega) (by omega)]; omega
  by_cases hin : i < n
  ·have hin' : (i : Int) < n := by omega
   by_cases hz : (readR ws k a b (readA ws k a b 0 i).p).2.1 = 0
   ·skip
    have hst : readA ws k a b 0 (i + 1) = ⟨0, (readA ws k a b 0 i).l ++ [(readR ws k a b (readA ws k a b 0 i).p).1], (readR ws k a b (readA ws k a b 0 i).p).2.2⟩ := by
     rw [readA, if_pos hie, if_pos hz]
    rw [hz] at hrd
    have hin' : (i : Int) < n := by omega
    have hse : (readA ws k a b 0 (i + 1)).e = 0 := by rw [hst]
    have hsp : (readA ws k a b 0 (i + 1)).p = (readR ws k a b (readA ws k a b 0 i).p).2.2 := by rw [hst]
    have hsl : (readA ws k a b 0 (i + 1)).l = (readA ws k a b 0 i).l ++ [(readR ws k a b (readA ws k a b 0 i).p).1] := by rw [hst]
    clear hst hz
    generalize readR ws k a b (readA ws k a b 0 i).p = Q at *
    obtain ⟨⟨q1, q2, q3⟩, qe, qp⟩ := Q
    obtain ⟨P, hP⟩ : ∃ P, P = (readA ws k a b 0 i).p := ⟨_, rfl⟩
    obtain ⟨ls, hls⟩ : ∃ ls, ls = (readA ws k a b 0 i).l := ⟨_, rfl⟩
    rw [← hP] at hrd ⊢
    rw [← hls] at gl hsl ⊢
    simp only [parD, tsD] at hrd hsp hsl
    by_cases hi0 : i = 0
    ·have hls0 : ls = [] := List.eq_nil_of_length_eq_zero (by omega)
     subst hi0 hls0
     simp only [slR, heapR, o_hu, List.length_nil, if_true]
     simp
     refine A10 (fs hin hin') ?_; try with_reducible exact tt
     refine CallS.pu (hrd) (R1 ew ?_); try with_reducible exact tt
     refine A10 ew ?_; try with_reducible exact tt
     simp only [Nat.zero_add, List.nil_append] at hse hsp hsl
     refine ⟨1, 1, 3, by simp, ⟨by omega, hse⟩, by omega, ?_, ?_⟩
     ·rw [hsl, hsp]; simp [swT, swH, sw, Ob.sw, V.ren, V.rens, rowOf]
     ·rw [hsl]; simp [swT, swH, sw, Ob.sw, V.ren, V.rens, stV, stL]
    ·have hlz : ls.length ≠ 0 := by omega
     have hlc : (stV ls).length = i * 3 := by rw [o_gh]; omega
     have hsn := o_gg ls (q1, q2, q3)
     rw [← hsl] at hsn
     simp only [slR, o_im hlz, o_hv hi0]
     generalize hX : stV ls = X at *
     simp
     refine A10 (fs hin hin') ?_; try with_reducible exact tt
     refine CallS.pu (hrd) (R1 (fs ew hlc) ?_); try with_reducible exact tt
     refine A10 (fs ew hlc) ?_; try with_reducible exact tt
     have hl1 : (readA ws k a b 0 (i + 1)).l.length ≠ 0 := by rw [hsl]; simp
     refine ⟨i + 1, 1, 4, by simp, ⟨by omega, hse⟩, by omega, ?_, ?_⟩
     ·rw [hsp, o_im hl1]; simp [swT, swH, sw, Ob.sw, V.ren, V.rens, rowOf]
     ·rw [o_im hl1]; simp [swT, swH, sw, Ob.sw, V.ren, V.rens, hsn]
   ·have hif : i = f := by
     rcases Nat.lt_trichotomy i f with h | h | h
     ·exact absurd f2 (o_il hie h hz)
     ·exact h
     ·refine absurd hie (o_il f2 h ?_)
      rw [f3, ← hS]; exact he
    rw [hif] at hrd hin hin' gl ⊢
    rw [f3, ← hS] at hrd
    generalize readR ws k a b (readA ws k a b 0 f).p = Q at *
    obtain ⟨⟨q1, q2, q3⟩, qe, qp⟩ := Q
    generalize (readA ws k a b 0 f).p = P at *
    generalize (readA ws k a b 0 f).l = ls at *
    generalize S.e = E at *
    simp only [parD, tsD] at hrd
    by_cases hi0 : f = 0
    ·have hls0 : ls = [] := List.eq_nil_of_length_eq_zero (by omega)
     subst hi0 hls0
     simp only [slR, heapR, o_hu, List.length_nil, if_true]
     simp
     refine A10 (fs hin hin') ?_; try with_reducible exact tt
     refine CallS.pu (hrd) (R1 he ?_); try with_reducible exact tt
     refine A10 he ?_; try with_reducible exact tt
    ·have hlz : ls.length ≠ 0 := by omega
     have hlc : (stV ls).length = f * 3 := by rw [o_gh]; omega
     simp only [slR, o_im hlz, o_hv hi0]
     generalize hX : stV ls = X at *
     simp
     refine A10 (fs hin hin') ?_; try with_reducible exact tt
     refine CallS.pu (hrd) (R1 (fs he hlc) ?_); try with_reducible exact tt
     refine A10 (fs he hlc) ?_; try with_reducible exact tt
  ·have h2 : i = n := by omega
   subst h2
   exact absurd hie (by rw [← hS]; exact he)
end
end Go.Proofs.Ytlelpbaeplcfiaa.Am
namespace Go.Proofs.Ytlelpbaeplcfiaa.Am
section
open Go.RowKit
theorem o_io (a w : Nat) (h1 : 1 ≤ a) (h2 : a ≤ 4096) (w1 : 1 ≤ w) (w2 : w ≤ 10) (hm : ¬ bitsN (a + 1) * (2 ^ w - 1) ≤ 8192) : Eqn Try.prog o_9r [.d (.agg [.int .i64 1, .int .i64 a, .int .i64 w])] [] (.d (.int .i64 10)) [] := by
 refine Eqn.pure o_9t (o_3z _) ?_
 simp only [o_9s]
 have hk := o_bq 1 a w
 rw [kindD, if_pos rfl] at hk
 have hg := o_bo a
 rw [show decide (1 ≤ (a : Int) ∧ (a : Int) ≤ 4096) = true by simp; omega] at hg
 have g1 : ¬ (w : Int) < 1 := by omega
 have g2 : ¬ (10 : Int) < w := by omega
 refine G0 ?_; try with_reducible exact tt
 refine CallS.pu (hk) (R1 (fs g1 g2) ?_); try with_reducible exact tt
 refine ⟨_, o_bl, ?_⟩
 refine CallS.pu (hg) (R1 (fs g1 g2) ?_); try with_reducible exact tt
 refine AW.cond rfl (fun h => ?_) (fun h => ?_)
 ·simp [g1, g2] at h
 clear h
 have e1 : IntKind.i64.wrap ((a : Int) + 1) = ((a + 1 : Nat) : Int) := w64 (by omega) (by omega)
 have e2 : IntKind.u64.wrap ((a + 1 : Nat) : Int) = ((a + 1 : Nat) : Int) := wu64 (by omega) (by omega)
 have hb := o_c1 (a + 1) (by omega)
 have hbl : bitsN (a + 1) ≤ 13 := o_bs (by omega)
 have h2' : 0 < 2 ^ w := Nat.two_pow_pos w
 have h2 : 2 ^ w ≤ 1024 := Nat.pow_le_pow_right (n := 2) (by omega) w2
 have e0 : (2 : Int) ^ w = (2 ^ w : Nat) := by rw [Int.natCast_pow]; rfl
 have hml : bitsN (a + 1) * (2 ^ w - 1) ≤ 13 * 1024 := Nat.mul_le_mul hbl (by omega)
 generalize 2 ^ w = S at *
 generalize bitsN (a + 1) = B at *
 generalize a + 1 = a1 at *
 have e3 : IntKind.i64.wrap (S : Int) = S := w64 (by omega) (by omega)
 have e4 : IntKind.i64.wrap ((S : Int) - 1) = ((S - 1 : Nat) : Int) := by rw [w64 (by omega) (by omega)]; omega
 have e5 : IntKind.i64.wrap ((B : Int) * ((S - 1 : Nat) : Int)) = ((B * (S - 1) : Nat) : Int) := by
  rw [← Int.natCast_mul]
  generalize B * (S - 1) = x at *
  exact w64 (by omega) (by omega)
 have g3 : (8192 : Int) < ((B * (S - 1) : Nat) : Int) := by omega
 generalize hS1 : S - 1 = S1 at *
 obtain ⟨x, hx⟩ : ∃ x, x = B * S1 := ⟨_, rfl⟩
 rw [← hx] at e5 g3
 refine G1 (fs e1 e2) ?_; try with_reducible exact tt
 refine CallS.pu (hb) (R1 (fs e0 (fs e3 (fs e4 (fs e5 g3)))) ?_); try with_reducible exact tt
 refine AW.cond rfl (fun h => ?_) (fun h => ?_)
 ·refine G0 ?_; try with_reducible exact tt
 ·simp [g3] at h

theorem o_ip {k a w : Int} (hk : Eqn Try.prog o_ao [.d (.agg [.int .i64 k, .int .i64 a, .int .i64 w])] [] (.d .nilifc) []) : Eqn Try.prog o_9r [.d (.agg [.int .i64 k, .int .i64 a, .int .i64 w])] [] (.d (.int .i64 10)) [] := by
 refine Eqn.pure o_9t (o_3z _) ?_
 simp only [o_9s]
 refine A00 ?_; try with_reducible exact tt
 refine CallS.pu (hk) (R0 ?_); try with_reducible exact tt
 refine A00 ?_; try with_reducible exact tt
theorem o_iq (k a w : Int) : ∃ e : Int, Eqn Try.prog o_9r [.d (.agg [.int .i64 k, .int .i64 a, .int .i64 w])] [] (.d (.int .i64 e)) [] := by
 have hk := o_bq k a w
 by_cases hw : 1 ≤ w ∧ w ≤ 10
 ·obtain ⟨W, rfl⟩ : ∃ W : Nat, w = W := ⟨w.toNat, by omega⟩
  obtain ⟨w1, w2⟩ := hw
  by_cases h1 : k = 1
  ·subst h1
   by_cases ha : 1 ≤ a ∧ a ≤ 4096
   ·obtain ⟨A, rfl⟩ : ∃ A : Nat, a = A := ⟨a.toNat, by omega⟩
    by_cases hm : bitsN (A + 1) * (2 ^ W - 1) ≤ 8192
    ·exact ⟨0, o_c2 A W (by omega) (by omega) (by omega) (by omega) hm⟩
    ·exact ⟨10, o_io A W (by omega) (by omega) (by omega) (by omega) hm⟩
   ·refine ⟨10, ?_⟩
    rw [kindD, if_pos rfl] at hk
    have hg := o_bo a
    rw [show decide (1 ≤ a ∧ a ≤ 4096) = false by simp; omega] at hg
    refine Eqn.pure o_9t (o_3z _) ?_
    simp only [o_9s]
    refine A00 ?_; try with_reducible exact tt
    refine CallS.pu (hk) (R0 ?_); try with_reducible exact tt
    refine ⟨_, o_bl, ?_⟩
    refine CallS.pu (hg) (R0 ?_); try with_reducible exact tt
    refine A00 ?_; try with_reducible exact tt
  ·by_cases h2 : k = 2
   ·subst h2
    by_cases ha : 0 ≤ a ∧ a ≤ 8
    ·obtain ⟨A, rfl⟩ : ∃ A : Nat, a = A := ⟨a.toNat, by omega⟩
     exact ⟨0, o_c4 A W (by omega) (by omega) (by omega)⟩
    ·refine ⟨10, ?_⟩
     rw [kindD, if_neg (by omega), if_pos rfl] at hk
     have hg := o_bp a
     rw [show decide (0 ≤ a ∧ a ≤ 8) = false by simp; omega] at hg
     refine Eqn.pure o_9t (o_3z _) ?_
     simp only [o_9s]
     refine A00 ?_; try with_reducible exact tt
     refine CallS.pu (hk) (R0 ?_); try with_reducible exact tt
     refine ⟨_, o_bm, ?_⟩
     refine CallS.pu (hg) (R0 ?_); try with_reducible exact tt
     refine A00 ?_; try with_reducible exact tt
   ·by_cases h3 : k = 3
    ·subst h3
     by_cases ha : 1 ≤ a ∧ a ≤ 5
     ·obtain ⟨A, rfl⟩ : ∃ A : Nat, a = A := ⟨a.toNat, by omega⟩
      exact ⟨0, o_c5 A W (by omega) (by omega) (by omega) (by omega)⟩
     ·refine ⟨10, ?_⟩
      rw [kindD, if_neg (by omega), if_neg (by omega), if_pos rfl] at hk
      have hg := o_c3 a
      rw [show decide (1 ≤ a ∧ a ≤ 5) = false by simp; omega] at hg
      refine Eqn.pure o_9t (o_3z _) ?_
      simp only [o_9s]
      refine A00 ?_; try with_reducible exact tt
      refine CallS.pu (hk) (R0 ?_); try with_reducible exact tt
      refine ⟨_, o_bn, ?_⟩
      refine CallS.pu (hg) (R0 ?_); try with_reducible exact tt
      refine A00 ?_; try with_reducible exact tt
    ·rw [kindD, if_neg h1, if_neg h2, if_neg h3] at hk
     exact ⟨10, o_ip hk⟩
 ·by_cases h1 : k = 1
  ·subst h1
   rw [kindD, if_pos rfl] at hk
   refine ⟨10, ?_⟩
   have hg := o_bo a
   refine Eqn.pure o_9t (o_3z _) ?_
   simp only [o_9s]
   generalize decide (1 ≤ a ∧ a ≤ 4096) = g at hg
   cases g
   ·refine A00 ?_; try with_reducible exact tt
    refine CallS.pu (hk) (R0 ?_); try with_reducible exact tt
    refine ⟨_, o_bl, ?_⟩
    refine CallS.pu (hg) (R0 ?_); try with_reducible exact tt
    refine A00 ?_; try with_reducible exact tt
   ·by_cases w1 : w < 1
    ·refine A00 ?_; try with_reducible exact tt
     refine CallS.pu (hk) (R1 w1 ?_); try with_reducible exact tt
     refine ⟨_, o_bl, ?_⟩
     refine CallS.pu (hg) (R1 w1 ?_); try with_reducible exact tt
     refine A10 w1 ?_; try with_reducible exact tt
    ·have w2 : 10 < w := by omega
     refine A00 ?_; try with_reducible exact tt
     refine CallS.pu (hk) (R1 (fs w1 w2) ?_); try with_reducible exact tt
     refine ⟨_, o_bl, ?_⟩
     refine CallS.pu (hg) (R1 (fs w1 w2) ?_); try with_reducible exact tt
     refine A10 (fs w1 w2) ?_; try with_reducible exact tt
  ·by_cases h2 : k = 2
   ·subst h2
    rw [kindD, if_neg (by omega), if_pos rfl] at hk
    refine ⟨10, ?_⟩
    have hg := o_bp a
    refine Eqn.pure o_9t (o_3z _) ?_
    simp only [o_9s]
    generalize decide (0 ≤ a ∧ a ≤ 8) = g at hg
    cases g
    ·refine A00 ?_; try with_reducible exact tt
     refine CallS.pu (hk) (R0 ?_); try with_reducible exact tt
     refine ⟨_, o_bm, ?_⟩
     refine CallS.pu (hg) (R0 ?_); try with_reducible exact tt
     refine A00 ?_; try with_reducible exact tt
    ·by_cases w1 : w < 1
     ·refine A00 ?_; try with_reducible exact tt
      refine CallS.pu (hk) (R1 w1 ?_); try with_reducible exact tt
      refine ⟨_, o_bm, ?_⟩
      refine CallS.pu (hg) (R1 w1 ?_); try with_reducible exact tt
      refine A10 w1 ?_; try with_reducible exact tt
     ·have w2 : 10 < w := by omega
      refine A00 ?_; try with_reducible exact tt
      refine CallS.pu (hk) (R1 (fs w1 w2) ?_); try with_reducible exact tt
      refine ⟨_, o_bm, ?_⟩
      refine CallS.pu (hg) (R1 (fs w1 w2) ?_); try with_reducible exact tt
      refine A10 (fs w1 w2) ?_; try with_reducible exact tt
   ·by_cases h3 : k = 3
    ·subst h3
     rw [kindD, if_neg (by omega), if_neg (by omega), if_pos rfl] at hk
     refine ⟨10, ?_⟩
     have hg := o_c3 a
     refine Eqn.pure o_9t (o_3z _) ?_
     simp only [o_9s]
     generalize decide (1 ≤ a ∧ a ≤ 5) = g at hg
     cases g
     ·refine A00 ?_; try with_reducible exact tt
      refine CallS.pu (hk) (R0 ?_); try with_reducible exact tt
      refine ⟨_, o_bn, ?_⟩
      refine CallS.pu (hg) (R0 ?_); try with_reducible exact tt
      refine A00 ?_; try with_reducible exact tt
     ·by_cases w1 : w < 1
      ·refine A00 ?_; try with_reducible exact tt
       refine CallS.pu (hk) (R1 w1 ?_); try with_reducible exact tt
       refine ⟨_, o_bn, ?_⟩
       refine CallS.pu (hg) (R1 w1 ?_); try with_reducible exact tt
       refine A10 w1 ?_; try with_reducible exact tt
      ·have w2 : 10 < w := by omega
       refine A00 ?_; try with_reducible exact tt
       refine CallS.pu (hk) (R1 (fs w1 w2) ?_); try with_reducible exact tt
       refine ⟨_, o_bn, ?_⟩
       refine CallS.pu (hg) (R1 (fs w1 w2) ?_); try with_reducible exact tt
       refine A10 (fs w1 w2) ?_; try with_reducible exact tt
    ·rw [kindD, if_neg h1, if_neg h2, if_neg h3] at hk
     exact ⟨10, o_ip hk⟩
theorem o_ir (a b : Int) : ∃ e : Int, Eqn Try.prog o_9l [.d (.agg [.int .i64 a, .int .i64 b])] [] (.d (.int .i64 e)) [] := by
 by_cases h1 : a < 1
 ·refine ⟨10, Eqn.pure o_9n Plain.ok ?_⟩
  simp only [o_9m]
  refine A10 h1 ?_; try with_reducible exact tt
 ·by_cases h2 : 1023 < a
  ·refine ⟨10, Eqn.pure o_9n Plain.ok ?_⟩
   simp only [o_9m]
   refine A10 (fs h1 h2) ?_; try with_reducible exact tt
  ·by_cases h3 : b < 0
   ·refine ⟨10, Eqn.pure o_9n Plain.ok ?_⟩
    simp only [o_9m]
    refine A10 (fs h1 (fs h2 h3)) ?_; try with_reducible exact tt
   ·by_cases h4 : 20 < b
    ·refine ⟨10, Eqn.pure o_9n Plain.ok ?_⟩
     simp only [o_9m]
     refine A10 (fs h1 (fs h2 (fs h3 h4))) ?_; try with_reducible exact tt
    ·refine ⟨0, Eqn.pure o_9n Plain.ok ?_⟩
     simp only [o_9m]
     refine A10 (fs h1 (fs h2 (fs h3 h4))) ?_; try with_reducible exact tt
theorem o_is (k a b : Int) : ∃ e : Int, Eqn Try.prog o_7r [.d (parD k a b)] [] (.d (.int .i64 e)) [] := by
 by_cases h4 : k = 4
 ·subst h4
  obtain ⟨e, h2⟩ := o_ir a b
  have h1 := o_ds 4 a b
  refine ⟨e, Eqn.pure o_7t Plain.ok ?_⟩
  simp only [o_7s, parD, tpD] at h1 h2 ⊢
  refine A00 ?_; try with_reducible exact tt
  refine CallS.pu (h1) (R0 ?_); try with_reducible exact tt
  refine CallS.pu (h2) (R0 ?_); try with_reducible exact tt
 ·obtain ⟨e, h2⟩ := o_iq k a b
  have h1 := o_dt k a b
  refine ⟨e, Eqn.pure o_7t Plain.ok ?_⟩
  simp only [o_7s, parD] at h1 h2 ⊢
  refine A10 h4 ?_; try with_reducible exact tt
  refine CallS.pu (h1) (R0 ?_); try with_reducible exact tt
  refine CallS.pu (h2) (R0 ?_); try with_reducible exact tt
theorem o_it (k a b : Int) : Eqn Try.prog o_6l [.d (parD k a b), .d (.int .i64 257)] [] (.tup [.d .nilp, .d (.int .i64 10)]) [] := by
 obtain ⟨e, he⟩ := o_is k a b
 refine Eqn.pure o_6n Plain.ok ?_
 simp only [o_6m, parD] at he ⊢
 by_cases h0 : e = 0
 ·subst h0
  refine A00 ?_; try with_reducible exact tt
  refine CallS.pu (he) (R0 ?_); try with_reducible exact tt
  refine A00 ?_; try with_reducible exact tt
 ·refine A00 ?_; try with_reducible exact tt
  refine CallS.pu (he) (R1 h0 ?_); try with_reducible exact tt
  refine A10 h0 ?_; try with_reducible exact tt
end
end Go.Proofs.Ytlelpbaeplcfiaa.Am
namespace Go.Proofs.Ytlelpbaeplcfiaa.Am
section
open Go.RowKit
theorem o_iu {k a b y t : Nat} {f : Bool} (hg : GoodR k a b) (h : WellR k a b y t f) (bs : List Bool) (p : Nat) (hp : p + wdR k a b ≤ bs.length) (he : (bs.drop p).take (wdR k a b) = encR k a b y t f) : readR (bytesOf bs) k a b p = ((y, t, f), 0, p + wdR k a b) := by
 have hl := o_e5 k a b y t f
 have hf := o_e1 hg h
 have hw : wdR k a b = kwR k a b + twR k b + 1 := rfl
 have sub : ∀ o n, o + n ≤ wdR k a b → ((bitsOf (bytesOf bs)).drop (p + o)).take n = ((encR k a b y t f).drop o).take n := by
  intro o n hon
  rw [o_fb _ _ _ (by omega), ← he, List.drop_take, List.take_take, List.drop_drop, Nat.min_eq_left (by omega)]
 have h1 : numAt (bytesOf bs) p (kwR k a b) = y := by
  unfold numAt
  have := sub 0 (kwR k a b) (by omega)
  rw [Nat.add_zero, List.drop_zero] at this
  rw [this]
  unfold encR
  rw [List.append_assoc, List.take_append_of_le_length (by simp), List.take_of_length_le (by simp), o_cj, Nat.mod_eq_of_lt hf.1]
 have h2 : numAt (bytesOf bs) (p + kwR k a b) (twR k b) = t := by
  unfold numAt
  rw [sub _ _ (by omega)]
  unfold encR
  rw [List.append_assoc, List.drop_append_of_le_length (by simp), List.drop_of_length_le (by simp), List.nil_append, List.take_append_of_le_length (by simp), List.take_of_length_le (by simp), o_cj, Nat.mod_eq_of_lt hf.2]
 have h3 : (bitsOf (bytesOf bs)).getD (p + kwR k a b + twR k b) false = f := by
  have e := sub (kwR k a b + twR k b) 1 (by omega)
  have : ((encR k a b y t f).drop (kwR k a b + twR k b)).take 1 = [f] := by
   unfold encR
   rw [List.drop_append_of_le_length (by simp), List.drop_of_length_le (by simp)]; rfl
  rw [this] at e
  rw [List.getD_eq_getElem?_getD]
  have e2 := congrArg (fun l => l[0]?) e
  simp only [List.getElem?_take, List.getElem?_drop] at e2
  simp at e2
  rw [Nat.add_assoc, e2]; rfl
 unfold readR
 rw [h1, h2, h3, if_neg (by rw [o_cm]; omega), if_pos (o_dw.2 h)]
 simp only [hw, Nat.add_assoc]
theorem o_iv {k a b : Nat} : ∀ (l : List ST) (i : Nat), (encL k a b l).drop (i * wdR k a b) = encL k a b (l.drop i)
 | l, 0 => by simp
 | [], i + 1 => by simp [encL]
 | s :: l, i + 1 => by
  rw [List.drop_succ_cons, ← o_iv l i, show encL k a b (s :: l) = encR k a b s.1 s.2.1 s.2.2 ++ encL k a b l from rfl, Nat.succ_mul, Nat.add_comm, ← List.drop_drop, List.drop_left' (by rw [o_e5]; rfl)]
theorem o_iw {k a b : Nat} (l : List ST) (i : Nat) (h : i < l.length) : ((encL k a b l).drop (i * wdR k a b)).take (wdR k a b) = encR k a b (l.getD i (0, 0, false)).1 (l.getD i (0, 0, false)).2.1 (l.getD i (0, 0, false)).2.2 := by
 rw [o_iv, List.drop_eq_getElem_cons h, List.getD_eq_getElem?_getD, List.getElem?_eq_getElem h]
 show (encR k a b l[i].1 l[i].2.1 l[i].2.2 ++ encL k a b (l.drop (i + 1))).take _ = _
 rw [List.take_append_of_le_length (by rw [o_e5]; exact Nat.le_refl _), List.take_of_length_le (by rw [o_e5]; exact Nat.le_refl _)]
 rfl
theorem o_ix {k a b : Nat} (hg : GoodR k a b) (l : List ST) (hw : wells k a b l) (bs : List Bool) (at_ : Nat) (hp : at_ + l.length * wdR k a b ≤ bs.length) (he : (bs.drop at_).take (l.length * wdR k a b) = encL k a b l) : ∀ i, i ≤ l.length → readA (bytesOf bs) k a b at_ i = ⟨0, l.take i, at_ + i * wdR k a b⟩
 | 0, _ => by simp [readA]
 | i + 1, hi => by
  have ih := o_ix hg l hw bs at_ hp he i (by omega)
  have hin : i < l.length := by omega
  have hwi := o_fh hw hin
  have hmul : i * wdR k a b + wdR k a b ≤ l.length * wdR k a b := by rw [← Nat.succ_mul]; exact Nat.mul_le_mul hi (Nat.le_refl _)
  have hr := o_iu hg hwi bs (at_ + i * wdR k a b) (by omega) (by
   rw [← o_iw l i hin, ← he, List.drop_take, List.take_take, List.drop_drop, Nat.min_eq_left (by omega)])
  rw [readA, ih]
  simp only [hr, if_true]
  have htk1 : l.take (i + 1) = l.take i ++ [l.getD i (0, 0, false)] := by
   rw [List.take_add_one, List.getElem?_eq_getElem hin, List.getD_eq_getElem?_getD, List.getElem?_eq_getElem hin]; rfl
  rw [htk1, Nat.succ_mul, Nat.add_assoc]
end
end Go.Proofs.Ytlelpbaeplcfiaa.Am
namespace Go.Proofs.Ytlelpbaeplcfiaa.Am
section
open Go.RowKit
@[simp] theorem o_iy (θ : Nat → Nat) (l : List D) : V.rens θ (l.map V.d) = l.map V.d := o_4m θ l
@[simp] theorem o_iz (n : Nat) (l : List D) : V.lowl n (l.map V.d) = true := o_4n n l
theorem o_j0 (d : D) (k a b : Int) : Eqn Try.prog o_5r [.ia [d, .int .i64 k, .int .i64 a, .int .i64 b] 0] [] (.d (parD k a b)) [] := by
 refine Eqn.pure o_5t Plain.ok ?_
 simp only [o_5s, parD]
 refine G0 ?_; try with_reducible exact tt
def heapW (k a b : Int) (K A B Y0 T0 : Nat) (F0 : Bool) (l : List ST) : List (Option Ob) := [some ⟨23, [.d (.int .i64 k), .d (.int .i64 a), .d (.int .i64 b)]⟩, some ⟨23, [.d (.int .i64 K), .d (.int .i64 A), .d (.int .i64 B)]⟩, some ⟨28, [.d (.int .i64 Y0), .d (.int .i64 T0), .d (.bool F0)]⟩, some ⟨41, [.p 4 0, .d (.int .i64 K), .d (.int .i64 A), .d (.int .i64 B)]⟩, some ⟨70, [.own 5 1 (nwP l.length (wdR K A B)), .d (.int .i64 l.length), .d (.int .i64 (wdR K A B : Nat))]⟩, some ⟨71, u64s (wordsP (wdR K A B) (encs K A B l))⟩, some ⟨36, [.own 7 1 (((encL K A B l).length + 7) / 8), .d (.int .i64 (encL K A B l).length)]⟩, some ⟨5, u8s (bytesOf (encL K A B l))⟩]
def heapT (l : List ST) : List (Option Ob) := if l.length = 0 then [] else [some ⟨28, stV l⟩]
theorem o_j1 {l : List ST} (h : l.length ≠ 0) : heapT l = [some ⟨28, stV l⟩] := if_neg h
def slW (k a b : Int) (L : List RawS) (ws : List Nat) (l : List ST) (i : Nat) : List V := [.d (.agg [.int .i64 k, .int .i64 a, .int .i64 b]), .d (.sl L.length (rawL L)), .d (BY ws), .p 0 0, .junk, .junk, .d (.bool false), .p 1 0, .p 2 0, .p 3 0, .d (.sl l.length (stL l)), .d (.bool true), .p 6 0, rowOf 8 3 i] ++ List.replicate 38 .junk ++ [.d (.sl l.length (stL l)), .d (.int .i64 l.length), .d (.int .i64 (i : Int))] ++ List.replicate 137 .junk
set_option maxHeartbeats 8000000 in
theorem o_j2 (k a b : Int) (L : List RawS) (ws : List Nat) (hL : L.length ≤ 9223372036854775807) (hws : smallB ws) (hwn : ws.length ≤ 9223372036854775807) : Eqn Try.prog o_50 [.d (parD k a b), .d (.sl L.length (rawL L)), .d (BY ws)] [] (.d (.bool true)) [] := by
 refine Eqn.pure o_52 Plain.ok ?_
 obtain ⟨K, A, B, hsr, hsm⟩ := o_g3 k a b
 obtain ⟨Y0, T0, F0, -, hs1⟩ := hsm 0 0 false
 have hg := o_fy hsr
 obtain ⟨l, l1, l8, lw, hml⟩ := o_go hsr L hL
 have hll := o_ga l
 have hwd := o_fa hg
 have hel : (encs K A B l).length = l.length := o_fd _ _ _ _
 have hpw := o_gs (wdR K A B) (encs K A B l) (by omega) (by omega) (by omega) (by omega) (o_fe _ _ _ _)
 rw [o_ii] at hpw
 simp only [o_51, parD, arrO, arrV, arrB, vecO, vecB, wrO, wrB, o_fd, tsD] at hs1 hml hpw ⊢
 refine G0B ?_; try with_reducible exact tt
 refine CallS.pu (o_gt) (R0B ?_); try with_reducible exact tt
 refine A00B ?_; try with_reducible exact tt
 refine CallS.pu (hs1) (R0B ?_); try with_reducible exact tt
 refine CallS.g [] (hml) (R0B ?_); try with_reducible exact tt
 refine A00B ?_; try with_reducible exact tt
 refine CallS.g [4, 5, 6] (hpw) (R0B ?_); try with_reducible exact tt
 refine AW.loopG (α := Nat) (fun i => slW k a b L ws l i) (fun i => heapW k a b K A B Y0 T0 F0 l ++ heapT (l.take i)) (fun i => i ≤ l.length) (fun i => l.length - i) 0 (fun i hi => by simp [slW]) (Nat.zero_le _) ?_ ?_ ?_
 ·simp [slW, rowOf, heapW, heapT]
 ·simp [heapW, heapT]
 rintro i hi
 by_cases hin : i < l.length
 ·have hin' : (i : Int) < l.length := by omega
  have hsg := o_gc l i hin
  have hltk : (l.take i).length = i := by rw [List.length_take]; omega
  have htk1 : l.take (i + 1) = l.take i ++ [l.getD i (0, 0, false)] := by
   rw [List.take_add_one, List.getElem?_eq_getElem hin, List.getD_eq_getElem?_getD, List.getElem?_eq_getElem hin]; rfl
  have hsn := o_gg (l.take i) (l.getD i (0, 0, false))
  rw [← htk1] at hsn
  have hlc : (stV (l.take i)).length = i * 3 := by rw [o_gh, hltk]; omega
  have hlne : l ≠ [] := fun h => by rw [h] at hin; simp at hin
  have hXr := fun θ => o_gj θ (l.take (i + 1))
  have hXl := fun n => o_gi n (l.take (i + 1))
  have htl1 : (l.take (i + 1)).length ≠ 0 := by rw [List.length_take]; omega
  have ew : IntKind.i64.wrap ((i : Int) + 1) = ((i + 1 : Nat) : Int) := by rw [w64 (by omega) (by omega)]; omega
  generalize l.getD i (0, 0, false) = s at *
  obtain ⟨s1, s2, s3⟩ := s
  have hb : (i : Int) * 3 + 3 ≤ 3 * l.length := by omega
  have hb' : i * 3 + 3 ≤ 3 * l.length := by omega
  by_cases hi0 : i = 0
  ·subst hi0
   simp only [slW, o_hu, List.take_zero, heapT, List.length_nil, if_true, List.append_nil] at hsn ⊢
   simp only [heapW]
   simp at hsg
   rw [show stV [] = [] from rfl, List.nil_append] at hsn
   simp
   refine A10B (fs hin (fs hin' (fs hsg (fs hll (fs hb (fs hb' ew)))))) ?_; try with_reducible exact tt
   refine ⟨1, 8, 10, by simp, by omega, by omega, ?_, ?_⟩
   ·simp [swT, swH, sw, Ob.sw, V.ren, V.rens, rowOf, hlne]
   ·simp [swT, swH, sw, Ob.sw, V.ren, V.rens, hlne, ← hsn]
  ·have ht0 : (l.take i).length ≠ 0 := by omega
   have ht1 : (l.take (i + 1)).length ≠ 0 := by omega
   simp only [slW, o_hv hi0, o_j1 ht0, o_hv (show i + 1 ≠ 0 by omega), o_j1 ht1]
   simp only [heapW]
   generalize hX : stV (l.take i) = X at *
   generalize hX1 : stV (l.take (i + 1)) = X1 at *
   simp
   refine A10B (fs hin (fs hin' (fs hsg (fs hll (fs hb (fs hb' (fs ew hlc))))))) ?_; try with_reducible exact tt
   refine ⟨i + 1, 8, 11, by simp, by omega, by omega, ?_, ?_⟩
   ·simp [swT, swH, sw, Ob.sw, V.ren, V.rens, rowOf, o_j1 ht1]
   ·simp [swT, swH, sw, Ob.sw, V.ren, V.rens, hsn, o_j1 ht1, hX1, hXr, hXl]
 ·have h2 : i = l.length := by omega
  subst h2
  have hlz : l.length ≠ 0 := by omega
  have hw18 := o_ij hg l lw (by omega)
  have hbl := o_ig K A B l
  have hmw : l.length * wdR K A B ≤ 8 * 32 := Nat.mul_le_mul l8 (by omega)
  have hmw1 : 1 * 1 ≤ l.length * wdR K A B := Nat.mul_le_mul l1 (by omega)
  have hra := o_ix hg l lw (encL K A B l) 0 (by omega) (by rw [List.drop_zero, List.take_of_length_le (by omega)]) l.length (Nat.le_refl _)
  rw [List.take_length, Nat.zero_add, ← hbl] at hra
  obtain ⟨bs, hbs⟩ : ∃ bs, bs = encL K A B l := ⟨_, rfl⟩
  rw [← hbs] at hw18 hbl hra
  have hne : bs ≠ [] := fun h => by rw [h] at hbl; simp at hbl; omega
  have hby := o_d9 bs hne (by omega)
  have hyl := o_cm bs
  have hrd := o_dh (bytesOf bs) (by omega)
  have hcr := (o_h2 hg l1 (by omega) (bytesOf bs) (o_fi _) (by omega) 0 (Nat.zero_le _) ⟨0, l, bs.length⟩ hra.symm).1 rfl
  have hrb := o_ie bs (by omega)
  have hsy := o_if (bytesOf bs) (by omega)
  have hcs := o_fx l l hg lw lw l1 (by omega) l1 (by omega)
  have hpl := o_g9 (wdR K A B) (encs K A B l)
  obtain ⟨W0, hW0⟩ : ∃ W0, W0 = (wordsP (wdR K A B) (encs K A B l)).map fun x : Nat => D.int .u64 x := ⟨_, rfl⟩
  have hWL : u64s (wordsP (wdR K A B) (encs K A B l)) = W0.map V.d := by rw [hW0]; simp [u64s]
  have hWt : W0.take (nwP l.length (wdR K A B)) = W0 := by rw [hW0]; exact List.take_of_length_le (by simp)
  have hcp := o_j0 (.ptr [.sl (nwP l.length (wdR K A B)) W0, .int .i64 l.length, .int .i64 (wdR K A B : Nat)] 0) K A B
  simp only [vecD, o_fd] at hpl
  rw [← hW0] at hpl
  have hwl := o_d8 1 bs
  rw [List.take_length, o_j1 hlz]
  simp only [slW, o_hv hlz, heapW]
  rw [← hbs]
  simp only [parD, arrO, arrV, arrB, vecO, vecB, wrO, wrB, rdO, o_fd, decide_true] at hw18 hby hrd hcr hcs hcp hwl ⊢
  have htk3 : (stL l).take (l.length * 3) = stL l := List.take_of_length_le (by omega)
  have hw18' : Eqn Try.prog o_5f [.d (.agg [.int .i64 K, .int .i64 A, .int .i64 B]), .d (.sl l.length ((stL l).take (l.length * 3)))] [] (.d (BL bs)) [] := by rw [htk3]; exact hw18
  obtain ⟨bytes, hbyt⟩ : ∃ bytes, bytes = bytesOf bs := ⟨_, rfl⟩
  rw [← hbyt] at hby hyl hrd hcr hrb hsy hwl ⊢
  have hB0 : u8s bytes = (yD bytes).map V.d := by simp [u8s, yD]
  have hBt : (yD bytes).take (bytes.length * 1) = yD bytes := List.take_of_length_le (by simp [yD])
  rw [hB0] at hby hwl ⊢
  rw [← hyl] at hby hwl ⊢
  simp only [o_i6] at hrd hcr hrb hsy
  simp only [o_hc, o_i6] at hw18' hrb ⊢
  have hrd' : Eqn Try.prog o_5l [.d (.sl bytes.length ((yD bytes).take (bytes.length * 1)))] [] (.p 0 0) [⟨79, [.d (.sl bytes.length (yD bytes)), .d (.int .i64 0)]⟩] := by rw [hBt]; exact hrd
  have hsy' : Eqn Try.prog o_60 [.d (.sl bytes.length ((yD bytes).take (bytes.length * 1))), .d (.sl bytes.length (yD bytes))] [] (.d (.bool true)) [] := by rw [hBt]; exact hsy
  generalize yD bytes = LB at *
  generalize bytes.length = NB at *
  simp
  refine A00B ?_; try with_reducible exact tt
  refine CallS.gf 8 3 ⟨28, stV l⟩ (stL l) [] (hw18') (R0B ?_); try with_reducible exact tt
  refine CallS.g [6, 7] (hby) (R0B ?_); try with_reducible exact tt
  refine CallS.gf 9 1 ⟨5, LB.map V.d⟩ LB [] (hrd') (R0B ?_); try with_reducible exact tt
  refine CallS.ro [(5, 1, W0), (4, 1, [.sl (nwP l.length (wdR K A B)) W0, .int .i64 l.length, .int .i64 (wdR K A B : Nat)]), (3, 1, [.ptr [.sl (nwP l.length (wdR K A B)) W0, .int .i64 l.length, .int .i64 (wdR K A B : Nat)] 0, .int .i64 K, .int .i64 A, .int .i64 B])] (hcp) (R0B ?_) (hok := by first | (simp [frzOK, frzH, hWL, hWt]; done) | (simp [frzOK, frzH, hWL, hWt]; rfl)); try with_reducible exact tt
  refine CallS.ro [(5, 1, W0), (4, 1, [.sl (nwP l.length (wdR K A B)) W0, .int .i64 l.length, .int .i64 (wdR K A B : Nat)])] (hpl) (R0B ?_) (hok := by first | (simp [frzOK, frzH, hWL, hWt]; done) | (simp [frzOK, frzH, hWL, hWt]; rfl)); try with_reducible exact tt
  refine CallS.g [10] (hcr) (R0B ?_); try with_reducible exact tt
  refine CallS.g [6, 7] (hwl) (R0B ?_); try with_reducible exact tt
  refine CallS.g [6, 7] (hby) (R0B ?_); try with_reducible exact tt
  refine CallS.pu (hrb) (R0B ?_); try with_reducible exact tt
  refine CallS.gf 14 1 ⟨5, LB.map V.d⟩ LB [] (hsy') (R0B ?_); try with_reducible exact tt
  refine CallS.g [11, 12, 13, 3, 4, 5] (hcs) (R0B ?_); try with_reducible exact tt
  by_cases h30 : 30 < ws.length
  ·have h30' : (30 : Int) < ws.length := by omega
   obtain ⟨v, hv⟩ : ∃ v, v = ws.take 30 := ⟨_, rfl⟩
   have hvl : v.length = 30 := by rw [hv, List.length_take]; omega
   have hsv : smallB v := fun x hx => hws x (by rw [hv] at hx; exact List.mem_of_mem_take hx)
   have hvt : (yD ws).take 30 = yD v := by rw [hv]; simp [yD]
   have hyw : (yD ws).length = ws.length := by simp [yD]
   have e30 : (30 : Int).toNat = 30 := rfl
   refine A10B (fs h30 (fs h30' (fs hvt hyw))) ?_; try with_reducible exact tt
   have hrd2 := o_dh v (by omega)
   have hbi := o_i0 v hsv (by omega)
   obtain ⟨S, hS⟩ : ∃ S, S = readA v K A B 0 l.length := ⟨_, rfl⟩
   have hcr2 := o_h2 hg l1 (by omega) v hsv (by omega) 0 (Nat.zero_le _) S hS
   have hr18 := o_in hg l1 (by omega) v (by omega) S hS
   obtain ⟨gp, gw, gl⟩ := o_h1 (ws := v) (k := K) (a := A) (b := B) (at_ := 0) (Nat.zero_le _) l.length
   rw [← hS] at gp gw gl
   have hlo := o_fz k a b
   have hnb := o_it k a b
   clear hS
   by_cases hSe : S.e = 0
   ·replace gl := gl hSe
    replace hcr2 := hcr2.1 hSe
    replace hr18 := hr18.1 hSe
    have hle := o_di v S.p (by omega) gp
    have hsl2 := o_ga S.l
    simp only [o_hc, o_i6, parD, arrO, arrV, arrB, vecO, vecB, rdO, o_fd, gl] at hrd2 hbi hcr2 hr18 hle hlo hnb
    have hb8 : (bitsOf v).length = 8 * v.length := by simp
    rw [hb8] at hbi hr18
    rw [hvl] at hrd2 hbi hcr2 hle hr18
    refine CallS.n1 (hrd2) (R0B ?_); try with_reducible exact tt
    refine CallS.ro [(5, 1, W0), (4, 1, [.sl (nwP l.length (wdR K A B)) W0, .int .i64 l.length, .int .i64 (wdR K A B : Nat)]), (3, 1, [.ptr [.sl (nwP l.length (wdR K A B)) W0, .int .i64 l.length, .int .i64 (wdR K A B : Nat)] 0, .int .i64 K, .int .i64 A, .int .i64 B])] (hcp) (R0B ?_) (hok := by first | (simp [frzOK, frzH, hWL, hWt]; done) | (simp [frzOK, frzH, hWL, hWt]; rfl)); try with_reducible exact tt
    refine CallS.ro [(5, 1, W0), (4, 1, [.sl (nwP l.length (wdR K A B)) W0, .int .i64 l.length, .int .i64 (wdR K A B : Nat)])] (hpl) (R0B ?_) (hok := by first | (simp [frzOK, frzH, hWL, hWt]; done) | (simp [frzOK, frzH, hWL, hWt]; rfl)); try with_reducible exact tt
    refine CallS.g [15] (hcr2) (R0B ?_); try with_reducible exact tt
    refine CallS.pu (hbi) (R0B ?_); try with_reducible exact tt
    refine CallS.ro [(5, 1, W0), (4, 1, [.sl (nwP l.length (wdR K A B)) W0, .int .i64 l.length, .int .i64 (wdR K A B : Nat)])] (hpl) (R0B ?_) (hok := by first | (simp [frzOK, frzH, hWL, hWt]; done) | (simp [frzOK, frzH, hWL, hWt]; rfl)); try with_reducible exact tt
    refine CallS.pu (hr18) (R0B ?_); try with_reducible exact tt
    refine A00B ?_; try with_reducible exact tt
    refine AW.loopT (α := Nat) 19 (fun i => [(150, .d (.int .i64 (i : Int)))]) (fun i => []) (fun i => i ≤ l.length) (fun i => l.length - i) 0 ?_ ?_ (Nat.zero_le _) ?_ ?_ ?_
    ·simp
    ·simp
    ·simp
    ·simp
    rintro i hi
    simp [-Bool.exists_bool]
    by_cases hin : i < l.length
    ·have hin' : (i : Int) < l.length := by omega
     have hsg := o_gc S.l i (by omega)
     have hgi := o_fj S.l i hg gw (by omega) (by omega)
     have ew : IntKind.i64.wrap ((i : Int) + 1) = ((i + 1 : Nat) : Int) := by rw [w64 (by omega) (by omega)]; omega
     generalize S.l.getD i (0, 0, false) = s at *
     obtain ⟨s1, s2, s3⟩ := s
     have hb : (i : Int) * 3 + 3 ≤ 3 * l.length := by omega
     have hb' : i * 3 + 3 ≤ 3 * l.length := by omega
     have hls := o_g0 s1 s2 s3
     simp only [tsD, arrO, arrV, arrB, vecO, vecB, o_fd, gl] at hgi hsg hsl2
     refine A10B (fs hin (fs hin' (fs hsg (fs hsl2 (fs hb hb'))))) ?_; try with_reducible exact tt
     refine CallS.g [16, 17, 18] (hgi) (R0B ?_); try with_reducible exact tt
     refine CallS.pu (hls) (R1B ew ?_); try with_reducible exact tt
     refine A10B ew ?_; try with_reducible exact tt
     exact ⟨i + 1, by omega, by omega, by simp⟩
    ·have h2 : i = l.length := by omega
     subst h2
     refine A00B ?_; try with_reducible exact tt
     refine CallS.pu (hlo) (R0B ?_); try with_reducible exact tt
     refine CallS.pu (hnb) (R0B ?_); try with_reducible exact tt
     have ex1 : IntKind.i64.wrap 240 = 240 := w64 (by omega) (by omega)
     have ex2 : IntKind.i64.wrap (240 - (S.p : Int)) = 240 - S.p := w64 (by omega) (by omega)
     have ex3 : ((240 - S.p : Nat) : Int) = 240 - S.p := by omega
     refine CallS.o1 15 (hle) (R1B (fs ex1 (fs ex2 ex3)) ?_); try with_reducible exact tt
     done
   ·replace hcr2 := hcr2.2 hSe
    obtain ⟨q, hr18⟩ := hr18.2 hSe
    have hse1 : (S.e == 0) = false := by simp [hSe]
    have hse2 : (S.e != 0) = true := by simp [hSe]
    simp only [o_hc, o_i6, parD, arrO, arrV, arrB, vecO, vecB, rdO, o_fd] at hrd2 hbi hcr2 hr18 hlo hnb
    have hb8 : (bitsOf v).length = 8 * v.length := by simp
    rw [hb8] at hbi hr18
    rw [hvl] at hrd2 hbi hcr2 hr18
    refine CallS.n1 (hrd2) (R0B ?_); try with_reducible exact tt
    refine CallS.ro [(5, 1, W0), (4, 1, [.sl (nwP l.length (wdR K A B)) W0, .int .i64 l.length, .int .i64 (wdR K A B : Nat)]), (3, 1, [.ptr [.sl (nwP l.length (wdR K A B)) W0, .int .i64 l.length, .int .i64 (wdR K A B : Nat)] 0, .int .i64 K, .int .i64 A, .int .i64 B])] (hcp) (R0B ?_) (hok := by first | (simp [frzOK, frzH, hWL, hWt]; done) | (simp [frzOK, frzH, hWL, hWt]; rfl)); try with_reducible exact tt
    refine CallS.ro [(5, 1, W0), (4, 1, [.sl (nwP l.length (wdR K A B)) W0, .int .i64 l.length, .int .i64 (wdR K A B : Nat)])] (hpl) (R0B ?_) (hok := by first | (simp [frzOK, frzH, hWL, hWt]; done) | (simp [frzOK, frzH, hWL, hWt]; rfl)); try with_reducible exact tt
    refine CallS.g [15] (hcr2) (R0B ?_); try with_reducible exact tt
    refine CallS.pu (hbi) (R0B ?_); try with_reducible exact tt
    refine CallS.ro [(5, 1, W0), (4, 1, [.sl (nwP l.length (wdR K A B)) W0, .int .i64 l.length, .int .i64 (wdR K A B : Nat)])] (hpl) (R0B ?_) (hok := by first | (simp [frzOK, frzH, hWL, hWt]; done) | (simp [frzOK, frzH, hWL, hWt]; rfl)); try with_reducible exact tt
    refine CallS.pu (hr18) (R1B (fs hSe (fs hse1 hse2)) ?_); try with_reducible exact tt
    refine A10B (fs hSe (fs hse1 hse2)) ?_; try with_reducible exact tt
    refine AW.loopT (α := Nat) 16 (fun i => [(150, .d (.int .i64 0))]) (fun i => []) (fun i => True) (fun i => 0) 0 ?_ ?_ trivial ?_ ?_ ?_
    ·simp
    ·simp
    ·simp
    ·simp
    rintro - -
    simp [-Bool.exists_bool]
    refine A00B ?_; try with_reducible exact tt
    refine CallS.pu (hlo) (R0B ?_); try with_reducible exact tt
    refine CallS.pu (hnb) (R1B (fs hSe (fs hse1 hse2)) ?_); try with_reducible exact tt
    done
  ·have h30' : ¬ (30 : Int) < ws.length := by omega
   obtain ⟨v, hv⟩ : ∃ v, v = ws := ⟨_, rfl⟩
   have hsv : smallB v := by rw [hv]; exact hws
   rw [← hv] at h30 h30' ⊢
   clear hv
   obtain ⟨m, hvl⟩ : ∃ m, v.length = m := ⟨_, rfl⟩
   rw [hvl] at h30 h30' ⊢
   refine A10B (fs h30 h30') ?_; try with_reducible exact tt
   have hrd2 := o_dh v (by omega)
   have hbi := o_i0 v hsv (by omega)
   obtain ⟨S, hS⟩ : ∃ S, S = readA v K A B 0 l.length := ⟨_, rfl⟩
   have hcr2 := o_h2 hg l1 (by omega) v hsv (by omega) 0 (Nat.zero_le _) S hS
   have hr18 := o_in hg l1 (by omega) v (by omega) S hS
   obtain ⟨gp, gw, gl⟩ := o_h1 (ws := v) (k := K) (a := A) (b := B) (at_ := 0) (Nat.zero_le _) l.length
   rw [← hS] at gp gw gl
   have hlo := o_fz k a b
   have hnb := o_it k a b
   clear hS
   by_cases hSe : S.e = 0
   ·replace gl := gl hSe
    replace hcr2 := hcr2.1 hSe
    replace hr18 := hr18.1 hSe
    have hle := o_di v S.p (by omega) gp
    have hsl2 := o_ga S.l
    simp only [o_hc, o_i6, parD, arrO, arrV, arrB, vecO, vecB, rdO, o_fd, gl] at hrd2 hbi hcr2 hr18 hle hlo hnb
    have hb8 : (bitsOf v).length = 8 * v.length := by simp
    rw [hb8] at hbi hr18
    rw [hvl] at hrd2 hbi hcr2 hle hr18
    refine CallS.n1 (hrd2) (R0B ?_); try with_reducible exact tt
    refine CallS.ro [(5, 1, W0), (4, 1, [.sl (nwP l.length (wdR K A B)) W0, .int .i64 l.length, .int .i64 (wdR K A B : Nat)]), (3, 1, [.ptr [.sl (nwP l.length (wdR K A B)) W0, .int .i64 l.length, .int .i64 (wdR K A B : Nat)] 0, .int .i64 K, .int .i64 A, .int .i64 B])] (hcp) (R0B ?_) (hok := by first | (simp [frzOK, frzH, hWL, hWt]; done) | (simp [frzOK, frzH, hWL, hWt]; rfl)); try with_reducible exact tt
    refine CallS.ro [(5, 1, W0), (4, 1, [.sl (nwP l.length (wdR K A B)) W0, .int .i64 l.length, .int .i64 (wdR K A B : Nat)])] (hpl) (R0B ?_) (hok := by first | (simp [frzOK, frzH, hWL, hWt]; done) | (simp [frzOK, frzH, hWL, hWt]; rfl)); try with_reducible exact tt
    refine CallS.g [15] (hcr2) (R0B ?_); try with_reducible exact tt
    refine CallS.pu (hbi) (R0B ?_); try with_reducible exact tt
    refine CallS.ro [(5, 1, W0), (4, 1, [.sl (nwP l.length (wdR K A B)) W0, .int .i64 l.length, .int .i64 (wdR K A B : Nat)])] (hpl) (R0B ?_) (hok := by first | (simp [frzOK, frzH, hWL, hWt]; done) | (simp [frzOK, frzH, hWL, hWt]; rfl)); try with_reducible exact tt
    refine CallS.pu (hr18) (R0B ?_); try with_reducible exact tt
    refine A00B ?_; try with_reducible exact tt
    refine AW.loopT (α := Nat) 19 (fun i => [(150, .d (.int .i64 (i : Int)))]) (fun i => []) (fun i => i ≤ l.length) (fun i => l.length - i) 0 ?_ ?_ (Nat.zero_le _) ?_ ?_ ?_
    ·simp
    ·simp
    ·simp
    ·simp
    rintro i hi
    simp [-Bool.exists_bool]
    by_cases hin : i < l.length
    ·have hin' : (i : Int) < l.length := by omega
     have hsg := o_gc S.l i (by omega)
     have hgi := o_fj S.l i hg gw (by omega) (by omega)
     have ew : IntKind.i64.wrap ((i : Int) + 1) = ((i + 1 : Nat) : Int) := by rw [w64 (by omega) (by omega)]; omega
     generalize S.l.getD i (0, 0, false) = s at *
     obtain ⟨s1, s2, s3⟩ := s
     have hb : (i : Int) * 3 + 3 ≤ 3 * l.length := by omega
     have hb' : i * 3 + 3 ≤ 3 * l.length := by omega
     have hls := o_g0 s1 s2 s3
     simp only [tsD, arrO, arrV, arrB, vecO, vecB, o_fd, gl] at hgi hsg hsl2
     refine A10B (fs hin (fs hin' (fs hsg (fs hsl2 (fs hb hb'))))) ?_; try with_reducible exact tt
     refine CallS.g [16, 17, 18] (hgi) (R0B ?_); try with_reducible exact tt
     refine CallS.pu (hls) (R1B ew ?_); try with_reducible exact tt
     refine A10B ew ?_; try with_reducible exact tt
     exact ⟨i + 1, by omega, by omega, by simp⟩
    ·have h2 : i = l.length := by omega
     subst h2
     refine A00B ?_; try with_reducible exact tt
     refine CallS.pu (hlo) (R0B ?_); try with_reducible exact tt
     refine CallS.pu (hnb) (R0B ?_); try with_reducible exact tt
     have ex1 : IntKind.i64.wrap (8*m) = (8*m) := w64 (by omega) (by omega)
     have ex2 : IntKind.i64.wrap ((8*m) - (S.p : Int)) = (8*m) - S.p := w64 (by omega) (by omega)
     have ex3 : (((8*m) - S.p : Nat) : Int) = (8*m) - S.p := by omega
     refine CallS.o1 15 (hle) (R1B (fs ex1 (fs ex2 ex3)) ?_); try with_reducible exact tt
     done
   ·replace hcr2 := hcr2.2 hSe
    obtain ⟨q, hr18⟩ := hr18.2 hSe
    have hse1 : (S.e == 0) = false := by simp [hSe]
    have hse2 : (S.e != 0) = true := by simp [hSe]
    simp only [o_hc, o_i6, parD, arrO, arrV, arrB, vecO, vecB, rdO, o_fd] at hrd2 hbi hcr2 hr18 hlo hnb
    have hb8 : (bitsOf v).length = 8 * v.length := by simp
    rw [hb8] at hbi hr18
    rw [hvl] at hrd2 hbi hcr2 hr18
    refine CallS.n1 (hrd2) (R0B ?_); try with_reducible exact tt
    refine CallS.ro [(5, 1, W0), (4, 1, [.sl (nwP l.length (wdR K A B)) W0, .int .i64 l.length, .int .i64 (wdR K A B : Nat)]), (3, 1, [.ptr [.sl (nwP l.length (wdR K A B)) W0, .int .i64 l.length, .int .i64 (wdR K A B : Nat)] 0, .int .i64 K, .int .i64 A, .int .i64 B])] (hcp) (R0B ?_) (hok := by first | (simp [frzOK, frzH, hWL, hWt]; done) | (simp [frzOK, frzH, hWL, hWt]; rfl)); try with_reducible exact tt
    refine CallS.ro [(5, 1, W0), (4, 1, [.sl (nwP l.length (wdR K A B)) W0, .int .i64 l.length, .int .i64 (wdR K A B : Nat)])] (hpl) (R0B ?_) (hok := by first | (simp [frzOK, frzH, hWL, hWt]; done) | (simp [frzOK, frzH, hWL, hWt]; rfl)); try with_reducible exact tt
    refine CallS.g [15] (hcr2) (R0B ?_); try with_reducible exact tt
    refine CallS.pu (hbi) (R0B ?_); try with_reducible exact tt
    refine CallS.ro [(5, 1, W0), (4, 1, [.sl (nwP l.length (wdR K A B)) W0, .int .i64 l.length, .int .i64 (wdR K A B : Nat)])] (hpl) (R0B ?_) (hok := by first | (simp [frzOK, frzH, hWL, hWt]; done) | (simp [frzOK, frzH, hWL, hWt]; rfl)); try with_reducible exact tt
    refine CallS.pu (hr18) (R1B (fs hSe (fs hse1 hse2)) ?_); try with_reducible exact tt
    refine A10B (fs hSe (fs hse1 hse2)) ?_; try with_reducible exact tt
    refine AW.loopT (α := Nat) 16 (fun i => [(150, .d (.int .i64 0))]) (fun i => []) (fun i => True) (fun i => 0) 0 ?_ ?_ trivial ?_ ?_ ?_
    ·simp
    ·simp
    ·simp
    ·simp
    rintro - -
    simp [-Bool.exists_bool]
    refine A00B ?_; try with_reducible exact tt
    refine CallS.pu (hlo) (R0B ?_); try with_reducible exact tt
    refine CallS.pu (hnb) (R1B (fs hSe (fs hse1 hse2)) ?_); try with_reducible exact tt
    done
end
end Go.Proofs.Ytlelpbaeplcfiaa.Am
namespace Go.Proofs.Ytlelpbaeplcfiaa.Am
section
open Go.RowKit
end
end Go.Proofs.Ytlelpbaeplcfiaa.Am
namespace Go.Proofs.Ytlelpbaeplcfiaa.Am
section
open Go.RowKit
theorem o_j3 {I : Nat → Prop} {w : World} {α : Type} (f : α → List D) (g : α → List Value) (h : ∀ a, D.reps I w (f a) (g a)) : ∀ l : List α, D.reps I w (l.flatMap f) (l.map g).flatten
 | [] => by simp
 | a :: l => by
  rw [List.flatMap_cons, List.map_cons, List.flatten_cons]
  exact D.reps_append (h a) (o_j3 f g h l)
theorem o_j4 {W : World} {v : Value} {s : Nat} {α : Type} {l : List α} (f : α → List D) (g : α → List Value) (hg : ∀ a, ∀ u ∈ g a, u.oneCell' = true) (hr : ∀ a, D.reps (fun b => b < W.heap.size) W (f a) (g a)) (h : Cells W v s l.length (l.map g).flatten) : V.rep (memW W) (.d (.sl l.length (l.flatMap f))) v := by
 rw [V.rep_d]
 unfold D.rep
 obtain ⟨h1, p, cap, rfl, h2, h3, h4⟩ := h
 refine ⟨p, cap, rfl, h2, h3, (l.map g).flatten, fun u hu => ?_, o_j3 f g hr l, ?_⟩
 ·obtain ⟨x, hx, hu⟩ := List.mem_flatten.1 hu
  obtain ⟨a, -, rfl⟩ := List.mem_map.1 hx
  exact hg a u hu
 ·rcases h4 with ⟨rfl, h5, h6⟩ | ⟨b, o, rfl, hb, hc⟩
  ·left
   have : l = [] := List.eq_nil_of_length_eq_zero h5
   subst this
   exact ⟨rfl, h6, rfl⟩
  ·exact .inr ⟨b, o, rfl, .inr hb, hc⟩
end
end Go.Proofs.Ytlelpbaeplcfiaa.Am
namespace Go.Proofs.Ytlelpbaeplcfiaa.Am
section
open Go.RowKit
end
end Go.Proofs.Ytlelpbaeplcfiaa.Am
namespace Go.Proofs.Ytlelpbaeplcfiaa.Am
section
open Go.RowKit

theorem o_j5 {I : Nat → Prop} {w : World} : ∀ l : List Int, D.reps I w (l.map (D.int .i64)) (l.map (Value.int .i64))
 | [] => D.reps_nil.2 rfl
 | _ :: l => D.reps_cons.2 ⟨D.rep_int.2 rfl, o_j5 l⟩
theorem o_j6 {W : World} (l : List Int) : V.rep (memW W) (.d (.agg (l.map (D.int .i64)))) (.agg (l.map (Value.int .i64)).toArray) :=
 o_g7 (fun u hu => by obtain ⟨n, -, rfl⟩ := List.mem_map.1 hu; rfl) (o_j5 l)
end
end Go.Proofs.Ytlelpbaeplcfiaa.Am
namespace Go.Proofs.Ytlelpbaeplcfiaa.Am
section
open Go.RowKit

theorem o_j7 {W : World} {v : Value} {l : List RawS} (h : Cells W v 3 l.length (l.map fun a => [Value.int .i64 a.1, Value.int .i64 a.2.1, Value.bool a.2.2]).flatten) : V.rep (memW W) (.d (.sl l.length (rawL l))) v :=
 o_j4 (fun a : RawS => [D.int .i64 a.1, D.int .i64 a.2.1, D.bool a.2.2]) (fun a : RawS => [Value.int .i64 a.1, Value.int .i64 a.2.1, Value.bool a.2.2]) (fun a u hu => by simp at hu; rcases hu with rfl | rfl | rfl <;> rfl) (fun a => by simp [D.reps_cons, D.rep_int, D.rep_bool]) h
end
end Go.Proofs.Ytlelpbaeplcfiaa.Am
namespace Go.Proofs.Ytlelpbaeplcfiaa.Am
section
open Go.RowKit

theorem o_j8 : ∀ {L : List Int}, (∀ a ∈ L, (Lit.int .u8 a).wf = true) → ∃ ws : List Nat, L = ws.map (fun n : Nat => (n : Int)) ∧ smallB ws
 | [], _ => ⟨[], rfl, by intro x hx; cases hx⟩
 | a :: L, h => by
  obtain ⟨ws, rfl, hw⟩ := o_j8 (L := L) fun b hb => h b (List.mem_cons_of_mem _ hb)
  have ha := h a (List.mem_cons_self)
  unfold Lit.wf at ha
  simp only [Bool.and_eq_true, decide_eq_true_eq] at ha
  have h0 : (0 : Int) ≤ a := ha.1
  have h1 : a ≤ 255 := ha.2
  refine ⟨a.toNat :: ws, by simp [Int.toNat_of_nonneg h0], fun x hx => ?_⟩
  rcases List.mem_cons.1 hx with rfl | hx
  ·omega
  ·exact hw x hx
theorem cw_walk {W : World} {u v : Value} {L : List RawS} {B : List Int} (w1 : Cells W u 3 L.length (L.map fun a => [Value.int .i64 a.1, Value.int .i64 a.2.1, Value.bool a.2.2]).flatten) (hL : L.length ≤ maxLen) (w2 : Cells W v 1 B.length (B.map fun a => [Value.int .u8 a]).flatten) (hB : B.length ≤ maxLen) (px : ∀ a ∈ B, (Lit.int .u8 a).wf = true) {k a b : Int} : Calls Try.prog o_50 #[.agg #[.int .i64 k, .int .i64 a, .int .i64 b], u, v] W (fun e W' => e = .returned (.bool true) ∧ Same W W') := by
 obtain ⟨ws, rfl, hws⟩ := o_j8 px
 have hr : V.rep (memW W) (.d (BY ws)) v := by
  have w2' : Cells W v 1 ws.length (ws.map fun a : Nat => [Value.int .u8 a]).flatten := by rw [List.map_map, List.length_map] at w2; exact w2
  have := o_j4 (fun a : Nat => [D.int .u8 a]) (fun a : Nat => [Value.int .u8 a]) (fun a u hu => by simp at hu; subst hu; rfl) (fun a => by simp [D.reps_cons, D.rep_int]) w2'
  have e : ∀ l : List Nat, l.flatMap (fun a : Nat => [D.int .u8 a]) = l.map fun x : Nat => D.int .u8 x := by
   intro l
   induction l with
   | nil => rfl
   | cons x l ih => rw [List.flatMap_cons, ih]; rfl
  rw [e] at this
  exact this
 rw [List.length_map] at hB
 exact law_walk o_52 (o_j2 k a b L ws (by unfold maxLen at hL; omega) hws (by unfold maxLen at hB; omega))
  (V.reps_cons.2 ⟨o_j6 [k, a, b], V.reps_cons.2 ⟨o_j7 w1, V.reps_cons.2 ⟨hr, V.reps_nil.2 rfl⟩⟩⟩)
end
end Go.Proofs.Ytlelpbaeplcfiaa.Am
