/- Parts of the proof: Float2, Yu3, Chain2, Chain3, Chain4, Chain5, Chain6, ChainP, Chain7, Chain8, ChainA, ChainM, ChainB, ChainC, ChainD, ChainE, Float3, Rise1, Val1, MorM, Mor1, Chain9, ChainF, ThinM, Thin1, Thin2, Thin3, Reg1, BitsM, Bits1, Bits2, Bits3, Reg2, Reg3, Reg4, Reg5, ChainG, ChainH, AmLaw, Reg6, PmfM, PmfN, Pmf1, Pmf4, Pmf2, Pmf3, Pmf5, Pmf6, Pmf7, Pmf8, PmfG, Pmf9, PmfA, PmfB, PmfK, PmfC, PmfD, PmfE, PmfF, PmfH, PmfHL. -/
import Derived.Test.YtafdpoibkmhgcaaGreatDoorPd
set_option linter.unusedVariables false
set_option linter.unusedSimpArgs false
set_option maxRecDepth 100000
namespace Go.Proofs.YtafdpoibkmhgcaaGreatDoor.Am
section
open Go.RowKit
theorem o_nf {d k : Nat} (hd : d ≤ 8) (hk : k ≤ 1023) : wrongZ d [(k : Int)] = 0 := by
 rw [wrongZ, if_pos (by omega), if_pos]
 simp [okK]; omega

theorem o_ng (d k : Nat) (hd : d ≤ 8) (hk : k ≤ 1023) (hu : k / 2 ^ d < 64) :
  Eqn Tryz.prog o_er [.d (.int .i64 d), .d (.int .i64 k)] [] (.tup [.d (.agg [natW 1, .bool false, natW (2 ^ (k / 2 ^ d) - 1)]), .d (.int .i64 0)]) [] := by
 refine Eqn.pure o_et (o_hj _ _) ?_
 simp only [o_es]
 refine G0 ?_; try with_reducible exact tt
 refine CallS.pf 1 1 ⟨3, _⟩ [.int .i64 k] (o_m7 d k) (by first | rfl | (simp; done)) (R0 ?_); try with_reducible exact tt
 have hw := o_nf hd hk
 refine AW.cond rfl (fun h => ?_) (fun h => ?_)
 ·simp [hw] at h
 have hp := o_m6 d k (by omega) (by omega)
 generalize k / 2 ^ d = u at hp hu ⊢
 refine G0 ?_; try with_reducible exact tt
 refine CallS.pu (hp) (R0 ?_); try with_reducible exact tt
 refine CallS.pu (o_jl u hu) (R0 ?_); try with_reducible exact tt

def p2 (n : Nat) : Nat := 2 ^ n
def halfO (cs : List Bool) : Nat → Nat → Bool × Nat × Int
 | 0, i => (true, i, 0)
 | r + 1, i => if i < cs.length then (if cs.getD i false then halfO cs r (i + 1) else (false, i + 1, 0)) else (false, i, 8)
end
end Go.Proofs.YtafdpoibkmhgcaaGreatDoor.Am
namespace Go.Proofs.YtafdpoibkmhgcaaGreatDoor.Am
section
open Go.RowKit
def stepY (cs : List Bool) (s k : Int) : Bool × Int × Nat × Bool := if atE s k = 0 then halfR cs (atP s k).shift 0 false else (false, atE s k, 0, false)
def againE (s k j : Int) : Int := if atE s k = 0 then atE s j else atE s k
def againY (cs : List Bool) (s k j : Int) : Bool × Int × Nat × Bool := if againE s k j = 0 then halfR cs ((atP s k).shift - (atP s j).shift) 0 false else (false, againE s k j, 0, false)
end
end Go.Proofs.YtafdpoibkmhgcaaGreatDoor.Am
namespace Go.Proofs.YtafdpoibkmhgcaaGreatDoor.Am
section
open Go.RowKit
theorem o_nh (x : Nat) (hx : x < 18446744073709551616) : Eqn Tryz.prog o_cf [.d (.int .u64 x)] [] (.d (.int .i64 (bitsN x))) [] := by
 refine Eqn.pure o_ch (o_54 _) ?_
 simp only [o_cg]
 refine G0 ?_; try with_reducible exact tt
 refine AW.cond rfl (fun h => ?_) (fun h => ?_)
 ·simp at h
 refine G0 ?_; try with_reducible exact tt
 refine CallS.pu (o_io x hx) (R0 ?_); try with_reducible exact tt

theorem o_ni (a w : Nat) (h1 : 1 ≤ a) (h2 : a ≤ 4096) (w1 : 1 ≤ w) (w2 : w ≤ 10) (hm : bitsN (a + 1) * (2 ^ w - 1) ≤ 8192) : Eqn Tryz.prog o_c3 [.d (.agg [.int .i64 1, .int .i64 a, .int .i64 w])] [] (.d (.int .i64 0)) [] := by
 refine Eqn.pure o_c5 (o_54 _) ?_
 simp only [o_c4]
 have hk := o_mn 1 a w
 rw [kindD, if_pos rfl] at hk
 have hg := o_ml a
 rw [show decide (1 ≤ (a : Int) ∧ (a : Int) ≤ 4096) = true by simp; omega] at hg
 have g1 : ¬ (w : Int) < 1 := by omega
 have g2 : ¬ (10 : Int) < w := by omega
 refine G0 ?_; try with_reducible exact tt
 refine CallS.pu (hk) (R1 (fs g1 g2) ?_); try with_reducible exact tt
 refine ⟨_, o_mi, ?_⟩
 refine CallS.pu (hg) (R1 (fs g1 g2) ?_); try with_reducible exact tt
 refine AW.cond rfl (fun h => ?_) (fun h => ?_)
 ·simp [g1, g2] at h
 clear h
 have e1 : IntKind.i64.wrap ((a : Int) + 1) = ((a + 1 : Nat) : Int) := w64 (by omega) (by omega)
 have e2 : IntKind.u64.wrap ((a + 1 : Nat) : Int) = ((a + 1 : Nat) : Int) := wu64 (by omega) (by omega)
 have hb := o_nh (a + 1) (by omega)
 have hbl : bitsN (a + 1) ≤ 8192 := by
  refine Nat.le_trans (Nat.le_mul_of_pos_right _ ?_) hm
  have := Nat.pow_le_pow_right (n := 2) (by omega) w1
  omega
 have h2' : 0 < 2 ^ w := Nat.two_pow_pos w
 have h2 : 2 ^ w ≤ 1024 := Nat.pow_le_pow_right (n := 2) (by omega) w2
 have e0 : (2 : Int) ^ w = (2 ^ w : Nat) := by rw [Int.natCast_pow]; rfl
 generalize 2 ^ w = S at *
 generalize bitsN (a + 1) = B at *
 generalize a + 1 = a1 at *
 have e3 : IntKind.i64.wrap (S : Int) = S := w64 (by omega) (by omega)
 have e4 : IntKind.i64.wrap ((S : Int) - 1) = ((S - 1 : Nat) : Int) := by rw [w64 (by omega) (by omega)]; omega
 have e5 : IntKind.i64.wrap ((B : Int) * ((S - 1 : Nat) : Int)) = ((B * (S - 1) : Nat) : Int) := by
  rw [← Int.natCast_mul]
  generalize B * (S - 1) = x at *
  exact w64 (by omega) (by omega)
 have g3 : ¬ (8192 : Int) < ((B * (S - 1) : Nat) : Int) := by omega
 generalize hS1 : S - 1 = S1 at *
 obtain ⟨x, hx⟩ : ∃ x, x = B * S1 := ⟨_, rfl⟩
 rw [← hx] at e5 g3
 refine G1 (fs e1 e2) ?_; try with_reducible exact tt
 refine CallS.pu (hb) (R1 (fs e0 (fs e3 (fs e4 (fs e5 g3)))) ?_); try with_reducible exact tt
 refine AW.cond rfl (fun h => ?_) (fun h => ?_)
 ·simp [g3] at h
 refine G0 ?_; try with_reducible exact tt

theorem o_nj (a : Int) : Eqn Tryz.prog o_f6 [.d (.int .i64 a)] [] (.d (.bool (decide (1 ≤ a ∧ a ≤ 5)))) [] := by
 refine Eqn.pure o_f8 (o_54 _) ?_
 simp only [o_f7]
 refine G0 ?_; try with_reducible exact tt
 refine CallS.pu (o_mo a) (R0 ?_); try with_reducible exact tt

theorem o_nk (a w : Nat) (h2 : a ≤ 8) (w1 : 1 ≤ w) (w2 : w ≤ 10) : Eqn Tryz.prog o_c3 [.d (.agg [.int .i64 2, .int .i64 a, .int .i64 w])] [] (.d (.int .i64 0)) [] := by
 refine Eqn.pure o_c5 (o_54 _) ?_
 simp only [o_c4]
 have hk := o_mn 2 a w
 rw [kindD, if_neg (by omega), if_pos rfl] at hk
 have hg := o_mm a
 rw [show decide (0 ≤ (a : Int) ∧ (a : Int) ≤ 8) = true by simp; omega] at hg
 have g1 : ¬ (w : Int) < 1 := by omega
 have g2 : ¬ (10 : Int) < w := by omega
 refine G0 ?_; try with_reducible exact tt
 refine CallS.pu (hk) (R1 (fs g1 g2) ?_); try with_reducible exact tt
 refine ⟨_, o_mj, ?_⟩
 refine CallS.pu (hg) (R1 (fs g1 g2) ?_); try with_reducible exact tt
 refine AW.cond rfl (fun h => ?_) (fun h => ?_)
 ·simp [g1, g2] at h
 clear h
 refine G0 ?_; try with_reducible exact tt
 refine AW.cond rfl (fun h => ?_) (fun h => ?_)
 ·simp at h
 refine G0 ?_; try with_reducible exact tt
theorem o_nl (a w : Nat) (h1 : 1 ≤ a) (h2 : a ≤ 5) (w1 : 1 ≤ w) (w2 : w ≤ 10) : Eqn Tryz.prog o_c3 [.d (.agg [.int .i64 3, .int .i64 a, .int .i64 w])] [] (.d (.int .i64 0)) [] := by
 refine Eqn.pure o_c5 (o_54 _) ?_
 simp only [o_c4]
 have hk := o_mn 3 a w
 rw [kindD, if_neg (by omega), if_neg (by omega), if_pos rfl] at hk
 have hg := o_nj a
 rw [show decide (1 ≤ (a : Int) ∧ (a : Int) ≤ 5) = true by simp; omega] at hg
 have g1 : ¬ (w : Int) < 1 := by omega
 have g2 : ¬ (10 : Int) < w := by omega
 refine G0 ?_; try with_reducible exact tt
 refine CallS.pu (hk) (R1 (fs g1 g2) ?_); try with_reducible exact tt
 refine ⟨_, o_mk, ?_⟩
 refine CallS.pu (hg) (R1 (fs g1 g2) ?_); try with_reducible exact tt
 refine AW.cond rfl (fun h => ?_) (fun h => ?_)
 ·simp [g1, g2] at h
 clear h
 refine G0 ?_; try with_reducible exact tt
 refine AW.cond rfl (fun h => ?_) (fun h => ?_)
 ·simp at h
 refine G0 ?_; try with_reducible exact tt
end
end Go.Proofs.YtafdpoibkmhgcaaGreatDoor.Am
namespace Go.Proofs.YtafdpoibkmhgcaaGreatDoor.Am
section
open Go.RowKit
def parD (k a w : Int) : D := .agg [.int .i64 k, .int .i64 a, .int .i64 w]
theorem o_nm (k a : Int) (w : Nat) (w2 : w ≤ 10) (hc : Eqn Tryz.prog o_c3 [.d (parD k a w)] [] (.d (.int .i64 0)) []) : Eqn Tryz.prog o_al [.d (parD k a w)] [] (.d (.int .i64 (2 ^ w - 1 : Nat))) [] := by
 refine Eqn.pure o_an (o_54 _) ?_
 simp only [o_am, parD] at hc ⊢
 have h2' : 0 < 2 ^ w := Nat.two_pow_pos w
 have h2 : 2 ^ w ≤ 1024 := Nat.pow_le_pow_right (n := 2) (by omega) w2
 have e0 : (2 : Int) ^ w = (2 ^ w : Nat) := by rw [Int.natCast_pow]; rfl
 generalize 2 ^ w = S at *
 have e3 : IntKind.i64.wrap (S : Int) = S := w64 (by omega) (by omega)
 have e4 : IntKind.i64.wrap ((S : Int) - 1) = ((S - 1 : Nat) : Int) := by rw [w64 (by omega) (by omega)]; omega
 generalize S - 1 = S1 at *
 refine G0 ?_; try with_reducible exact tt
 refine CallS.pu (hc) (R0 ?_); try with_reducible exact tt
 refine AW.cond rfl (fun h => ?_) (fun h => ?_)
 ·simp at h
 refine G1 (fs e0 (fs e3 e4)) ?_; try with_reducible exact tt

theorem o_nn (k a : Int) (w : Nat) (w2 : w ≤ 10) (x : Int) (h0 : 0 ≤ x) (h1 : x ≤ (2 ^ w - 1 : Nat)) (hc : Eqn Tryz.prog o_c3 [.d (parD k a w)] [] (.d (.int .i64 0)) []) : Eqn Tryz.prog o_bu [.d (parD k a w), .d (.sl 1 [.int .i64 x])] [] (.d (.int .i64 0)) [] := by
 refine Eqn.pure o_bw (o_54 _) ?_
 have ht := o_nm k a w w2 hc
 simp only [o_bv, parD] at hc ht ⊢
 generalize 2 ^ w - 1 = S at *
 refine G0 ?_; try with_reducible exact tt
 refine CallS.pu (hc) (R0 ?_); try with_reducible exact tt
 refine AW.cond rfl (fun h => ?_) (fun h => ?_)
 ·simp at h
 refine G0 ?_; try with_reducible exact tt
 refine AW.loopT (α := Nat) 1 (fun i => [(15, .d (.int .i64 (i : Int)))]) (fun i => []) (fun i => i ≤ 1) (fun i => 1 - i) 0 ?_ ?_ (Nat.zero_le _) ?_ ?_ ?_
 ·simp
 ·simp
 ·simp
 ·simp
 rintro i hi
 simp
 have g1 : ¬ x < 0 := by omega
 have g2 : ¬ (S : Int) < x := by omega
 by_cases h : i = 1
 ·subst h
  refine G0 ?_; try with_reducible exact tt
  refine AW.cond rfl (fun h => ?_) (fun h => ?_)
  ·simp at h
  refine AW.exit ?_
  (try (simp -implicitDefEqProofs; try simp (disch := omega) only [w64, wu64]))
  refine G0 ?_; try with_reducible exact tt
 ·obtain rfl : i = 0 := by omega
  refine G0 ?_; try with_reducible exact tt
  refine AW.cond rfl (fun h => ?_) (fun h => ?_)
  ·refine G1 (fs g1 g2) ?_; try with_reducible exact tt
   refine CallS.pu (ht) (R1 (fs g1 g2) ?_); try with_reducible exact tt
   refine AW.cond rfl (fun h => ?_) (fun h => ?_)
   ·simp [g1, g2] at h
   have ew : IntKind.i64.wrap 1 = 1 := w64 (by omega) (by omega)
   refine G1 ew ?_; try with_reducible exact tt
   exact ⟨1, by omega, by omega, by simp⟩
  ·simp at h
end
end Go.Proofs.YtafdpoibkmhgcaaGreatDoor.Am
namespace Go.Proofs.YtafdpoibkmhgcaaGreatDoor.Am
section
open Go.RowKit
end
end Go.Proofs.YtafdpoibkmhgcaaGreatDoor.Am
namespace Go.Proofs.YtafdpoibkmhgcaaGreatDoor.Am
section
open Go.RowKit
end
end Go.Proofs.YtafdpoibkmhgcaaGreatDoor.Am
namespace Go.Proofs.YtafdpoibkmhgcaaGreatDoor.Am
section
open Go.RowKit
def stepG (cs : List Bool) (d k : Int) (p : Nat) (dd : Bool) : Bool × Int × Nat × Bool := if wrongZ d [k] = 0 then halfR cs (k.toNat / 2 ^ d.toNat) p dd else (false, wrongZ d [k], p, dd)

def stepYG (cs : List Bool) (s k : Int) (q : Nat) (dd : Bool) : Bool × Int × Nat × Bool := if atE s k = 0 then halfR cs (atP s k).shift q dd else (false, atE s k, q, dd)
end
end Go.Proofs.YtafdpoibkmhgcaaGreatDoor.Am
namespace Go.Proofs.YtafdpoibkmhgcaaGreatDoor.Am
section
abbrev StepT := Nat → Nat → Bool → Bool × Int × Nat × Bool
def addL (st : StepT) (top : Nat) : Nat → Nat → Bool → Nat → Bool → Int × Nat × Bool × Nat × Bool
 | 0, x, f, p, d => (0, x, f, p, d)
 | n + 1, x, f, p, d =>
  if x = top then (0, x, true, p, d)
  else if (st x p d).2.1 = 0 then
   if f = true ∧ (if (st x p d).1 then x + 1 else x) = top then (0, top, f, (st x p d).2.2.1, (st x p d).2.2.2)
   else addL st top n (if (st x p d).1 then x + 1 else x) f (st x p d).2.2.1 (st x p d).2.2.2
  else ((st x p d).2.1, x, f, (st x p d).2.2.1, (st x p d).2.2.2)
end
end Go.Proofs.YtafdpoibkmhgcaaGreatDoor.Am
namespace Go.Proofs.YtafdpoibkmhgcaaGreatDoor.Am
section
open Go.RowKit
structure StepOf (cs : List Bool) (ti : TypeId) (d : D) (g : FuncId) (st : StepT) : Prop where
 meth : MethOK Tryz.prog ti "tallymark/chain.step" g
 run : ∀ (x p : Nat) (dd : Bool), p ≤ cs.length → Eqn Tryz.prog g [.d d, .p 0 0, .d (.int .i64 x)] [tapeO cs p dd] (.tup [.d (.bool (st x p dd).1), .d (.int .i64 (st x p dd).2.1)]) [tapeO cs (st x p dd).2.2.1 (st x p dd).2.2.2]
 le : ∀ (x p : Nat) (dd : Bool), p ≤ cs.length → (st x p dd).2.2.1 ≤ cs.length
end
end Go.Proofs.YtafdpoibkmhgcaaGreatDoor.Am
namespace Go.Proofs.YtafdpoibkmhgcaaGreatDoor.Am
section
open Go.RowKit
def stOf (cs : List Bool) (k a : Int) : StepT := fun x p dd => if k = 1 then stepM cs a x p dd else if k = 2 then stepG cs a x p dd else stepYG cs a x p dd
def GoodS (k a w : Nat) : Prop := (k = 1 ∧ 1 ≤ a ∧ a ≤ 4 ∨ k = 2 ∧ a ≤ 1 ∨ k = 3 ∧ 1 ≤ a ∧ a ≤ 2) ∧ 1 ≤ w ∧ w ≤ 4

theorem o_no {k a w : Nat} (h : GoodS k a w) : Eqn Tryz.prog o_c3 [.d (parD k a w)] [] (.d (.int .i64 0)) [] := by
 obtain ⟨h, h1, h2⟩ := h
 rcases h with ⟨rfl, h3, h4⟩ | ⟨rfl, h3⟩ | ⟨rfl, h3, h4⟩
 ·refine o_ni a w (by omega) (by omega) h1 (by omega) ?_
  have ha : a = 1 ∨ a = 2 ∨ a = 3 ∨ a = 4 := by omega
  have hw : w = 1 ∨ w = 2 ∨ w = 3 ∨ w = 4 := by omega
  rcases ha with rfl | rfl | rfl | rfl <;> rcases hw with rfl | rfl | rfl | rfl <;> decide
 ·exact o_nk a w (by omega) h1 (by omega)
 ·exact o_nl a w (by omega) (by omega) h1 (by omega)

theorem o_np (k m : Int) (hm : 0 < m) : -m < k.tmod m ∧ k.tmod m < m := by
 refine ⟨?_, Int.tmod_lt_of_pos _ hm⟩
 rcases (by omega : k < 0 ∨ 0 ≤ k) with h | h
 ·have := Int.tmod_lt_of_pos (-k) hm
  rw [Int.neg_tmod] at this
  omega
 ·have := Int.tmod_nonneg m h
  omega
theorem o_nq (k m : Int) (hm : 0 < m) (hm2 : m ≤ 4611686018427387904) : IntKind.i64.wrap (k.tmod m + m) = k.tmod m + m ∧ ∃ r : Nat, (k.tmod m + m).tmod m = r ∧ r < m ∧ IntKind.i64.wrap (1 + (r : Int)) = ((1 + r : Nat) : Int) := by
 have h := o_np k m hm
 have h0 : 0 ≤ k.tmod m + m := by omega
 refine ⟨w64 (by omega) (by omega), ?_⟩
 have h1 := Int.tmod_nonneg m h0
 have h2 := Int.tmod_lt_of_pos (k.tmod m + m) hm
 obtain ⟨r, hr⟩ : ∃ r : Nat, (k.tmod m + m).tmod m = r := ⟨((k.tmod m + m).tmod m).toNat, by omega⟩
 exact ⟨r, hr, by omega, by rw [w64 (by omega) (by omega)]; omega⟩
theorem o_nr (k : Int) (m : Nat) (hm : m ≤ 4611686018427387904) : ∃ n : Nat, bits BinOp.and IntKind.i64 k (m : Int) = n ∧ n ≤ m ∧ IntKind.i64.wrap (1 + (n : Int)) = ((1 + n : Nat) : Int) := by
 refine ⟨(BitVec.ofInt 64 k).toNat &&& m, ?_, Nat.and_le_right, ?_⟩
 ·have hm' : m % 2 ^ 64 = m := Nat.mod_eq_of_lt (by omega)
  have hle : (BitVec.ofInt 64 k).toNat &&& m ≤ m := Nat.and_le_right
  show IntKind.i64.wrap (((BitVec.ofInt 64 k) &&& (BitVec.ofInt 64 (m : Int))).toNat : Int) = _
  rw [BitVec.toNat_and, BitVec.ofInt_natCast, BitVec.toNat_ofNat, hm']
  generalize (BitVec.ofInt 64 k).toNat &&& m = n at *
  exact w64 (by omega) (by omega)
 ·have hle : (BitVec.ofInt 64 k).toNat &&& m ≤ m := Nat.and_le_right
  generalize (BitVec.ofInt 64 k).toNat &&& m = n at *
  rw [w64 (by omega) (by omega)]; omega
end
end Go.Proofs.YtafdpoibkmhgcaaGreatDoor.Am
namespace Go.Proofs.YtafdpoibkmhgcaaGreatDoor.Am
section
open Go.RowKit
abbrev AgT := Nat → Nat → Nat → Bool → Bool × Int × Nat × Bool
def agOf (cs : List Bool) (k a : Nat) : AgT := fun x r p dd => if k = 1 then powerR cs a (a + 1) (x - r) p dd else if k = 2 then halfR cs (x / 2 ^ a - r / 2 ^ a) p dd else halfR cs ((placeY a x).shift - (placeY a r).shift) p dd

structure AgainOf (cs : List Bool) (ti : TypeId) (d : D) (g : FuncId) (ag : AgT) : Prop where
 meth : MethOK Tryz.prog ti "tallymark/chain.again" g
 run : ∀ (x r p : Nat) (dd : Bool), x ≤ 1023 → r ≤ 1023 → p ≤ cs.length → Eqn Tryz.prog g [.d d, .p 0 0, .d (.int .i64 x), .d (.int .i64 r)] [tapeO cs p dd] (.tup [.d (.bool (ag x r p dd).1), .d (.int .i64 (ag x r p dd).2.1)]) [tapeO cs (ag x r p dd).2.2.1 (ag x r p dd).2.2.2]
 le : ∀ (x r p : Nat) (dd : Bool), p ≤ cs.length → (ag x r p dd).2.2.1 ≤ cs.length
end
end Go.Proofs.YtafdpoibkmhgcaaGreatDoor.Am
namespace Go.Proofs.YtafdpoibkmhgcaaGreatDoor.Am
section
open Go.RowKit
def mergeL (ag : AgT) (top : Nat) : Nat → Nat → Nat → Bool → Nat → Bool → Int × Nat × Bool × Nat × Bool
 | 0, _, x, f, p, d => (0, x, f, p, d)
 | n + 1, r, x, f, p, d =>
  if x = top then mergeL ag top n (r + 1) x true p d
  else if (ag x r p d).2.1 = 0 then mergeL ag top n (r + 1) (if (ag x r p d).1 then x + 1 else x) f (ag x r p d).2.2.1 (ag x r p d).2.2.2
  else ((ag x r p d).2.1, x, f, (ag x r p d).2.2.1, (ag x r p d).2.2.2)
end
end Go.Proofs.YtafdpoibkmhgcaaGreatDoor.Am
namespace Go.Proofs.YtafdpoibkmhgcaaGreatDoor.Am
section
open Go.RowKit
def outD (p : Nat) (R : Bool × Int × Nat × Bool) : D := .agg [.bool R.1, .int .i64 (R.2.2.1 - p : Nat), .int .i64 R.2.1]
end
end Go.Proofs.YtafdpoibkmhgcaaGreatDoor.Am
namespace Go.Proofs.YtafdpoibkmhgcaaGreatDoor.Am
section
open Go.RowKit
end
end Go.Proofs.YtafdpoibkmhgcaaGreatDoor.Am
namespace Go.Proofs.YtafdpoibkmhgcaaGreatDoor.Am
section
open Go.RowKit
structure Live (p : Nat) (R : Bool × Int × Nat × Bool) : Prop where
 err : R.2.1 = 0 ∨ R.2.1 = 8
 dead : R.2.2.2 = true ↔ R.2.1 ≠ 0
 no : R.2.1 ≠ 0 → R.1 = false
 le : p ≤ R.2.2.1

theorem Live.mono {p q : Nat} {R : Bool × Int × Nat × Bool} (h : Live q R) (hq : p ≤ q) : Live p R := ⟨h.err, h.dead, h.no, Nat.le_trans hq h.le⟩
theorem Live.ok {p : Nat} {R : Bool × Int × Nat × Bool} (h : Live p R) (h1 : R.2.1 = 0) : R.2.2.2 = false := by
 cases hd : R.2.2.2 with
 | false => rfl
 | true => exact absurd h1 (h.dead.1 hd)
end
end Go.Proofs.YtafdpoibkmhgcaaGreatDoor.Am
namespace Go.Proofs.YtafdpoibkmhgcaaGreatDoor.Am
section
open Go.RowKit
theorem o_ns : MethOK Tryz.prog 253 "tallymark/chain.chance" o_el := fun v w => by kernel_rfl
theorem o_nt : MethOK Tryz.prog 254 "tallymark/chain.chance" o_f3 := fun v w => by kernel_rfl

def halfD (e : Nat) : D := .agg [natW 1, .bool false, natW (2 ^ e - 1)]
def expOf (k a x : Nat) : Nat := if k = 2 then x / 2 ^ a else (placeY a x).shift

theorem o_nu (d k : Nat) (hd : d ≤ 8) (hk : k ≤ 1023) (hu : k / 2 ^ d < 64) : Eqn Tryz.prog o_el [.d (.int .i64 d), .d (.int .i64 k)] [] (.tup [.d (halfD (k / 2 ^ d)), .d (.int .i64 0)]) [] := by
 refine Eqn.pure o_en (o_hj _ _) ?_
 have h := o_ng d k hd hk hu
 simp only [o_em, halfD]
 generalize natW (2 ^ (k / 2 ^ d) - 1) = Z at *
 refine G0 ?_; try with_reducible exact tt
 refine CallS.pu (h) (R0 ?_); try with_reducible exact tt

theorem o_nv : ∀ a, a < 3 → ∀ x, x < 16 → (placeY a x).shift < 64 := by decide

theorem o_nw (s k : Nat) (h1 : 1 ≤ s) (h2 : s ≤ 5) (hk : k ≤ 1023) (hu : (placeY s k).shift < 64) : Eqn Tryz.prog o_f9 [.d (.int .i64 s), .d (.int .i64 k)] [] (.tup [.d (halfD (placeY s k).shift), .d (.int .i64 0)]) [] := by
 refine Eqn.pure o_fb (o_hj _ _) ?_
 have ha := o_ne s k h1 h2 hk
 generalize placeY s k = P at *
 obtain ⟨px, ps, pv, pr⟩ := P
 simp only at hu
 have hh := o_jl ps hu
 simp only [o_fa, halfD, plD] at ha ⊢
 generalize natW (2 ^ ps - 1) = Z at *
 refine G0 ?_; try with_reducible exact tt
 refine CallS.pu (ha) (R0 ?_); try with_reducible exact tt
 refine AW.cond rfl (fun h => ?_) (fun h => ?_)
 ·simp at h
 refine G0 ?_; try with_reducible exact tt
 refine CallS.pu (hh) (R0 ?_); try with_reducible exact tt

theorem o_nx (s k : Nat) (h1 : 1 ≤ s) (h2 : s ≤ 5) (hk : k ≤ 1023) (hu : (placeY s k).shift < 64) : Eqn Tryz.prog o_f3 [.d (.int .i64 s), .d (.int .i64 k)] [] (.tup [.d (halfD (placeY s k).shift), .d (.int .i64 0)]) [] := by
 refine Eqn.pure o_f5 (o_hj _ _) ?_
 have h := o_nw s k h1 h2 hk hu
 simp only [o_f4, halfD] at h ⊢
 generalize natW (2 ^ (placeY s k).shift - 1) = Z at *
 refine G0 ?_; try with_reducible exact tt
 refine CallS.pu (h) (R0 ?_); try with_reducible exact tt

theorem o_ny {k a w x : Nat} (h : GoodS k a w) (hk : k ≠ 1) (hx : x ≤ 15) : expOf k a x < 64 := by
 unfold expOf
 split
 ·have : x / 2 ^ a ≤ x := Nat.div_le_self _ _
  omega
 ·exact o_nv a (by have := h.1; omega) x (by omega)

theorem o_nz {k a w x : Nat} (h : GoodS k a w) (hk : k ≠ 1) (hx : x ≤ 15) : ∃ ti d g, MethOK Tryz.prog ti "tallymark/chain.chance" g ∧ kindD k a = .ifc ti d ∧ Eqn Tryz.prog g [.d d, .d (.int .i64 x)] [] (.tup [.d (halfD (expOf k a x)), .d (.int .i64 0)]) [] := by
 have hs := o_ny h hk hx
 obtain ⟨h, -⟩ := h
 rcases h with ⟨rfl, -⟩ | ⟨rfl, h1⟩ | ⟨rfl, h1, h2⟩
 ·exact absurd rfl hk
 ·exact ⟨_, _, _, o_ns, rfl, o_nu a x (by omega) (by omega) hs⟩
 ·exact ⟨_, _, _, o_nt, rfl, o_nx a x h1 (by omega) (by omega) hs⟩

theorem o_o0 {e : Nat} (h : e < 64) : size (2 ^ e) ≤ 1 := o_jd (by have := Nat.pow_lt_pow_right (a := 2) (by omega) h; omega)
end
end Go.Proofs.YtafdpoibkmhgcaaGreatDoor.Am
namespace Go.Proofs.YtafdpoibkmhgcaaGreatDoor.Am
section
open Go.RowKit
end
end Go.Proofs.YtafdpoibkmhgcaaGreatDoor.Am
namespace Go.Proofs.YtafdpoibkmhgcaaGreatDoor.Am
section
open Go.RowKit
end
end Go.Proofs.YtafdpoibkmhgcaaGreatDoor.Am
namespace Go.Proofs.YtafdpoibkmhgcaaGreatDoor.Am
section
open Go.RowKit
def valM (a k : Nat) : Rat := (a : Rat) * ((mkRat ((a + 1 : Nat) : Int) a) ^ k - ((1 : Nat) : Rat))

theorem o_o1 {x n : Nat} (h : bitsN x * n ≤ 8192) : size (x ^ n) ≤ 129 := by
 refine o_jm (n := bitsN x * n + 1) ?_ (by omega)
 rw [Nat.pow_succ]
 have h3 : x ^ n ≤ (2 ^ bitsN x) ^ n := Nat.pow_le_pow_left (Nat.le_of_lt (o_i5 x)) n
 rw [← Nat.pow_mul] at h3
 have := Nat.two_pow_pos (bitsN x * n)
 omega
end
end Go.Proofs.YtafdpoibkmhgcaaGreatDoor.Am
namespace Go.Proofs.YtafdpoibkmhgcaaGreatDoor.Am
section
open Go.RowKit
def chM (a k : Nat) : Rat := mkRat (a : Int) (a + 1) ^ k
theorem o_o2 {a : Nat} : (mkRat (a : Int) (a + 1)).num = (a : Int) ∧ (mkRat (a : Int) (a + 1)).den = a + 1 := by
 obtain ⟨p1, p2, p3⟩ := o_l1 (a : Int) (a + 1) (by omega)
 rw [Int.natAbs_natCast] at p1 p2
 have hg : Nat.gcd a (a + 1) = 1 := by
  rcases Nat.eq_zero_or_pos a with rfl | h
  ·rfl
  ·rw [Nat.gcd_rec, show (a + 1) % a = 1 % a by rw [Nat.add_mod_left], ← Nat.gcd_rec, Nat.gcd_one_right]
 rw [hg, Nat.div_one] at p1 p2
 refine ⟨?_, p2⟩
 have : ¬ (mkRat (a : Int) (a + 1)).num < 0 := fun h => by have := p3.1 h; omega
 omega
end
end Go.Proofs.YtafdpoibkmhgcaaGreatDoor.Am

namespace Go.Proofs.YtafdpoibkmhgcaaGreatDoor.Am
section
open Go.RowKit
theorem o_o3 (a k : Nat) (h1 : 1 ≤ a) (h2 : a ≤ 4096) (hk : k ≤ 1023) (hb : bitsN (a + 1) * k ≤ 8192) : Eqn Tryz.prog o_e6 [.d (.int .i64 a), .d (.int .i64 k)] [] (.tup [.d (rD (chM a k)), .d (.int .i64 0)]) [] ∧ RS (chM a k) 300 := by
 obtain ⟨q1, q2⟩ := o_o2 (a := a)
 have hmk := o_me a (a + 1) (by omega) (by omega) (by omega)
 obtain ⟨x, hx⟩ : ∃ x, x = mkRat (a : Int) (a + 1) := ⟨_, rfl⟩
 have hv : chM a k = x ^ k := by rw [hx]; rfl
 rw [← hx] at q1 q2 hmk
 have hba : bitsN a ≤ bitsN (a + 1) := o_i6 (Nat.lt_trans (Nat.lt_succ_self a) (o_i5 _))
 have hb2 : bitsN a * k ≤ 8192 := Nat.le_trans (Nat.mul_le_mul_right _ hba) hb
 have le8 : ∀ q : Nat, q * k ≤ 8192 → q ≤ 1 ∨ k ≤ 8192 / q := fun q h => by
  by_cases h1 : q ≤ 1
  ·exact .inl h1
  ·right; rw [Nat.le_div_iff_mul_le (by omega), Nat.mul_comm]; exact h
 have hxs : RS x 129 := ⟨by rw [q1, Int.natAbs_natCast]; exact Nat.le_trans (o_jd (by omega)) (by omega), by rw [q2]; exact Nat.le_trans (o_jd (by omega)) (by omega)⟩
 have hpow := o_mc x k (by omega) (by omega) (by rw [q1, Int.natAbs_natCast]; exact le8 _ hb2) (by rw [q2]; exact le8 _ hb) hxs (by rw [q1, Int.natAbs_natCast]; exact Nat.le_trans (o_o1 hb2) (by omega)) (by rw [q2]; exact Nat.le_trans (o_o1 hb) (by omega))
 have hps : RS (x ^ k) 129 := ⟨by rw [Rat.num_pow, Int.natAbs_pow, q1, Int.natAbs_natCast]; exact o_o1 hb2, by rw [Rat.den_pow, q2]; exact o_o1 hb⟩
 refine ⟨?_, by rw [hv]; exact hps.le (by omega)⟩
 have hw := o_ma a k
 rw [show wrongM (a : Int) [(k : Int)] = 0 by unfold wrongM; rw [if_pos (by omega), if_pos (by simp [okK]; omega)]] at hw
 have e1 : IntKind.i64.wrap ((a : Int) + 1) = ((a + 1 : Nat) : Int) := by rw [w64 (by omega) (by omega)]; omega
 refine Eqn.pure o_e8 Plain.ok ?_
 rw [hv]
 clear hv hxs hps q1 q2 hx
 generalize x ^ k = xk at *
 generalize ha1 : a + 1 = a' at *
 simp only [o_e7, rD] at hmk hpow ⊢
 refine G0 ?_; try with_reducible exact tt
 refine CallS.pf 1 1 ⟨3, _⟩ [.int .i64 k] (hw) (by first | rfl | (simp [e1]; done)) (R1 e1 ?_); try with_reducible exact tt
 refine AW.cond rfl (fun h => ?_) (fun h => ?_)
 ·simp at h
 refine G1 e1 ?_; try with_reducible exact tt
 refine CallS.pu (hmk) (R0 ?_); try with_reducible exact tt
 refine CallS.pu (hpow) (R0 ?_); try with_reducible exact tt
end
end Go.Proofs.YtafdpoibkmhgcaaGreatDoor.Am
namespace Go.Proofs.YtafdpoibkmhgcaaGreatDoor.Am
section
open Go.RowKit
end
end Go.Proofs.YtafdpoibkmhgcaaGreatDoor.Am
namespace Go.Proofs.YtafdpoibkmhgcaaGreatDoor.Am
section
open Go.RowKit
end
end Go.Proofs.YtafdpoibkmhgcaaGreatDoor.Am
namespace Go.Proofs.YtafdpoibkmhgcaaGreatDoor.Am
section
structure TR where
 e : Int
 y : Nat
 t : Nat
 f : Bool
 p : Nat
 d : Bool
end
end Go.Proofs.YtafdpoibkmhgcaaGreatDoor.Am
namespace Go.Proofs.YtafdpoibkmhgcaaGreatDoor.Am
section
open Go.RowKit
def binM (cs : List Bool) : Nat → Nat → Nat → Bool → Int × Nat × Nat × Bool
 | 0, c, p, d => (0, c, p, d)
 | n + 1, c, p, d => if flipE cs p d = 0 then binM cs n (if flipB cs p d then c + 1 else c) (flipP cs p d) (flipD cs p d) else (flipE cs p d, 0, flipP cs p d, flipD cs p d)
def thinM (cs : List Bool) (f : Bool) : Nat → Nat → Nat → Nat → Bool → TR
 | 0, y, t, p, d => ⟨0, y, t, f, p, d⟩
 | n + 1, y, t, p, d => if (binM cs y 0 p d).1 = 0 then thinM cs f n (binM cs y 0 p d).2.1 (t + 1) (binM cs y 0 p d).2.2.1 (binM cs y 0 p d).2.2.2 else ⟨(binM cs y 0 p d).1, y, t, f, (binM cs y 0 p d).2.2.1, (binM cs y 0 p d).2.2.2⟩
def downM (cs : List Bool) (most times : Nat) : Nat → Nat → Nat → Bool → Nat → Bool → TR
 | 0, y, t, f, p, d => ⟨0, y, t, f, p, d⟩
 | k + 1, y, t, f, p, d =>
  if most < y then
   if t = times then ⟨0, most, t, true, p, d⟩
   else if (thinM cs f 1 y t p d).e = 0 then downM cs most times k (thinM cs f 1 y t p d).y (thinM cs f 1 y t p d).t f (thinM cs f 1 y t p d).p (thinM cs f 1 y t p d).d
   else ⟨(thinM cs f 1 y t p d).e, y, t, f, (thinM cs f 1 y t p d).p, (thinM cs f 1 y t p d).d⟩
  else ⟨0, y, t, f, p, d⟩
def oneM (cs : List Bool) (most times y t : Nat) (f : Bool) (p : Nat) (d : Bool) : TR :=
 if (halfR cs t p d).1 then downM cs most times (times - t + 1) (y + 1) t f (halfR cs t p d).2.2.1 (halfR cs t p d).2.2.2
 else ⟨(halfR cs t p d).2.1, y, t, f, (halfR cs t p d).2.2.1, (halfR cs t p d).2.2.2⟩
def addTM (cs : List Bool) (most times : Nat) : Nat → Nat → Nat → Bool → Nat → Bool → TR
 | 0, y, t, f, p, d => ⟨0, y, t, f, p, d⟩
 | n + 1, y, t, f, p, d => if (oneM cs most times y t f p d).e = 0 then addTM cs most times n (oneM cs most times y t f p d).y (oneM cs most times y t f p d).t (oneM cs most times y t f p d).f (oneM cs most times y t f p d).p (oneM cs most times y t f p d).d else oneM cs most times y t f p d
def mergeTM (cs : List Bool) (most times y t : Nat) (f : Bool) (z u : Nat) (g : Bool) (p : Nat) (d : Bool) : TR :=
 let A := thinM cs f (u - t) y t p d
 if A.e = 0 then
  let B := thinM cs g (t - u) z u A.p A.d
  if B.e = 0 then downM cs most times (times - A.t + 1) (A.y + B.y) A.t (f || g) B.p B.d else B
 else A

def tsD (y t : Nat) (f : Bool) : D := .agg [.int .i64 y, .int .i64 t, .bool f]
end
end Go.Proofs.YtafdpoibkmhgcaaGreatDoor.Am
namespace Go.Proofs.YtafdpoibkmhgcaaGreatDoor.Am
section
open Go.RowKit
def tpD (a b : Int) : D := .agg [.int .i64 a, .int .i64 b]

def GoodT (a b : Nat) : Prop := 1 ≤ a ∧ a ≤ 1023 ∧ b ≤ 20
def WellT (a b y t : Nat) (f : Bool) : Prop := y ≤ a ∧ t ≤ b ∧ (f = true → t = b)

theorem o_o4 {a b : Nat} (h : GoodT a b) : Eqn Tryz.prog o_c0 [.d (tpD a b)] [] (.d (.int .i64 0)) [] := by
 refine Eqn.pure o_c2 Plain.ok ?_
 obtain ⟨h1, h2, h3⟩ := h
 have g1 : ¬ (a : Int) < 1 := by omega
 have g2 : ¬ (1023 : Int) < a := by omega
 have g3 : ¬ (b : Int) < 0 := by omega
 have g4 : ¬ (20 : Int) < b := by omega
 simp only [o_c1, tpD]
 refine G1 (fs g1 (fs g2 (fs g3 g4))) ?_; try with_reducible exact tt
 refine AW.cond rfl (fun h => ?_) (fun h => ?_)
 ·simp at h
 ·refine G0 ?_; try with_reducible exact tt
end
end Go.Proofs.YtafdpoibkmhgcaaGreatDoor.Am
namespace Go.Proofs.YtafdpoibkmhgcaaGreatDoor.Am
section
open Go.RowKit
end
end Go.Proofs.YtafdpoibkmhgcaaGreatDoor.Am
namespace Go.Proofs.YtafdpoibkmhgcaaGreatDoor.Am
section
open Go.RowKit
def GoodC (k a w : Nat) : Prop := (k = 1 ∧ 1 ≤ a ∧ a ≤ 4096 ∧ bitsN (a + 1) * (2 ^ w - 1) ≤ 8192 ∨ k = 2 ∧ a ≤ 8 ∨ k = 3 ∧ 1 ≤ a ∧ a ≤ 5) ∧ 1 ≤ w ∧ w ≤ 10
theorem o_o5 {k a w : Nat} (h : GoodS k a w) : GoodC k a w := by
 obtain ⟨h, h1, h2⟩ := h
 refine ⟨?_, h1, by omega⟩
 rcases h with ⟨rfl, h3, h4⟩ | ⟨rfl, h3⟩ | ⟨rfl, h3, h4⟩
 ·refine .inl ⟨rfl, h3, by omega, ?_⟩
  have ha : a = 1 ∨ a = 2 ∨ a = 3 ∨ a = 4 := by omega
  have hw : w = 1 ∨ w = 2 ∨ w = 3 ∨ w = 4 := by omega
  rcases ha with rfl | rfl | rfl | rfl <;> rcases hw with rfl | rfl | rfl | rfl <;> decide
 ·exact .inr (.inl ⟨rfl, by omega⟩)
 ·exact .inr (.inr ⟨rfl, h3, by omega⟩)
theorem o_o6 {k a w : Nat} (h : GoodC k a w) : Eqn Tryz.prog o_c3 [.d (parD k a w)] [] (.d (.int .i64 0)) [] := by
 obtain ⟨h, h1, h2⟩ := h
 rcases h with ⟨rfl, h3, h4, h5⟩ | ⟨rfl, h3⟩ | ⟨rfl, h3, h4⟩
 ·exact o_ni a w h3 h4 h1 h2 h5
 ·exact o_nk a w h3 h1 h2
 ·exact o_nl a w h3 h4 h1 h2
def GoodR (k a b : Nat) : Prop := k = 4 ∧ GoodT a b ∨ k ≠ 4 ∧ GoodC k a b
def WellR (k a b y t : Nat) (f : Bool) : Prop := k = 4 ∧ WellT a b y t f ∨ k ≠ 4 ∧ t = 0 ∧ y ≤ 2 ^ b - 1 ∧ (f = true → y = 2 ^ b - 1)
def addRM (cs : List Bool) (k a b n y t : Nat) (f : Bool) (p : Nat) (d : Bool) : TR :=
 if k = 4 then addTM cs a b n y t f p d
 else ⟨(addL (stOf cs k a) (2 ^ b - 1) n y f p d).1, (addL (stOf cs k a) (2 ^ b - 1) n y f p d).2.1, 0, (addL (stOf cs k a) (2 ^ b - 1) n y f p d).2.2.1, (addL (stOf cs k a) (2 ^ b - 1) n y f p d).2.2.2.1, (addL (stOf cs k a) (2 ^ b - 1) n y f p d).2.2.2.2⟩
def mergeRM (cs : List Bool) (k a b y t : Nat) (f : Bool) (z u : Nat) (g : Bool) (p : Nat) (d : Bool) : TR :=
 if k = 4 then mergeTM cs a b y t f z u g p d
 else ⟨(mergeL (agOf cs k a) (2 ^ b - 1) z 0 y f p d).1, (mergeL (agOf cs k a) (2 ^ b - 1) z 0 y f p d).2.1, 0, (mergeL (agOf cs k a) (2 ^ b - 1) z 0 y f p d).2.2.1 || g, (mergeL (agOf cs k a) (2 ^ b - 1) z 0 y f p d).2.2.2.1, (mergeL (agOf cs k a) (2 ^ b - 1) z 0 y f p d).2.2.2.2⟩
end
end Go.Proofs.YtafdpoibkmhgcaaGreatDoor.Am
namespace Go.Proofs.YtafdpoibkmhgcaaGreatDoor.Am
section
def b2n (b : Bool) : Nat := if b then 1 else 0
@[simp] theorem o_o7 (b : Bool) : b2n b ≤ 1 := by cases b <;> decide
def numB : List Bool → Nat → Nat
 | [], n => n
 | b :: l, n => numB l (2 * n + b2n b)
def bitsW (n w : Nat) : List Bool := (List.range w).map fun i => decide (n / 2 ^ (w - 1 - i) % 2 = 1)
@[simp] theorem o_o8 (n w : Nat) : (bitsW n w).length = w := by simp [bitsW]
theorem o_o9 (n w : Nat) : bitsW n (w + 1) = bitsW (n / 2) w ++ [decide (n % 2 = 1)] := by
 simp only [bitsW, List.range_succ, List.map_append, List.map_cons, List.map_nil]
 congr 1
 ·apply List.map_congr_left
  intro i hi
  have := List.mem_range.1 hi
  rw [Nat.div_div_eq_div_mul, ← Nat.pow_succ', show w + 1 - 1 - i = (w - 1 - i).succ by omega]
 ·simp
def bit (bs : List Bool) (i : Nat) : Nat := b2n (bs.getD i false)
def byteAt (bs : List Bool) (i : Nat) : Nat := bit bs (8 * i) * 128 + bit bs (8 * i + 1) * 64 + bit bs (8 * i + 2) * 32 + bit bs (8 * i + 3) * 16 + bit bs (8 * i + 4) * 8 + bit bs (8 * i + 5) * 4 + bit bs (8 * i + 6) * 2 + bit bs (8 * i + 7)
def bytesOf (bs : List Bool) : List Nat := (List.range ((bs.length + 7) / 8)).map (byteAt bs)
@[simp] theorem o_oa (bs : List Bool) : (bytesOf bs).length = (bs.length + 7) / 8 := by simp [bytesOf]
theorem o_ob {bs : List Bool} {i : Nat} (h : bs.length ≤ i) : bit bs i = 0 := by
 unfold bit; rw [List.getD_eq_getElem?_getD, List.getElem?_eq_none h]; rfl
def bitsOf1 (x : Nat) : List Bool := bitsW x 8
def bitsOf : List Nat → List Bool
 | [] => []
 | x :: l => bitsOf1 x ++ bitsOf l
@[simp] theorem o_oc : ∀ l : List Nat, (bitsOf l).length = 8 * l.length
 | [] => rfl
 | x :: l => by simp [bitsOf, bitsOf1, o_oc l]; omega
theorem o_od : ∀ l k : List Nat, bitsOf (l ++ k) = bitsOf l ++ bitsOf k
 | [], k => rfl
 | x :: l, k => by simp [bitsOf, o_od l k]
end
end Go.Proofs.YtafdpoibkmhgcaaGreatDoor.Am
namespace Go.Proofs.YtafdpoibkmhgcaaGreatDoor.Am
section
open Go.RowKit
def u8s (ws : List Nat) : List V := ws.map fun x : Nat => V.d (.int .u8 x)
def BY (ws : List Nat) : D := .sl ws.length (ws.map fun x : Nat => .int .u8 x)
@[simp] theorem o_oe (n : Nat) (ws : List Nat) : V.lowl n (u8s ws) = true := by induction ws <;> simp_all [u8s]
@[simp] theorem o_of (θ : Nat → Nat) (ws : List Nat) : V.rens θ (u8s ws) = u8s ws := by induction ws <;> simp_all [u8s]
def wrB (bs : List Bool) : Ob := ⟨5, u8s (bytesOf bs)⟩
end
end Go.Proofs.YtafdpoibkmhgcaaGreatDoor.Am
namespace Go.Proofs.YtafdpoibkmhgcaaGreatDoor.Am
section
open Go.RowKit
def smallB (ws : List Nat) : Prop := ∀ x ∈ ws, x < 256
end
end Go.Proofs.YtafdpoibkmhgcaaGreatDoor.Am
namespace Go.Proofs.YtafdpoibkmhgcaaGreatDoor.Am
section
open Go.RowKit
def numAt (ws : List Nat) (a w : Nat) : Nat := numB (((bitsOf ws).drop a).take w) 0
end
end Go.Proofs.YtafdpoibkmhgcaaGreatDoor.Am
namespace Go.Proofs.YtafdpoibkmhgcaaGreatDoor.Am
section
open Go.RowKit
def wellTB (a b y t : Nat) (f : Bool) : Bool := decide (y ≤ a) && (decide (t ≤ b) && (!f || t == b))
theorem o_og {a b : Nat} (h : GoodT a b) (y t : Nat) (f : Bool) : Eqn Tryz.prog o_ai [.d (tpD a b), .d (tsD y t f)] [] (.d (.bool (wellTB a b y t f))) [] := by
 refine Eqn.pure o_ak Plain.ok ?_
 have hc := o_o4 h
 have g3 : (0 : Int) ≤ y := by omega
 have g4 : (0 : Int) ≤ t := by omega
 simp only [o_aj, tpD, tsD, wellTB] at hc ⊢
 by_cases h1 : y ≤ a
 ·have h1' : (y : Int) ≤ a := by omega
  by_cases h2 : t ≤ b
  ·have h2' : (t : Int) ≤ b := by omega
   cases f with
   | true =>
    by_cases h3 : t = b
    ·subst h3
     refine G1 (fs g3 (fs g4 (fs h1 (fs h1' (fs h2 h2'))))) ?_; try with_reducible exact tt
     refine CallS.pu (hc) (R1 (fs g3 (fs g4 (fs h1 (fs h1' (fs h2 h2'))))) ?_); try with_reducible exact tt
    ·have h3' : ¬ (t : Int) = b := by omega
     refine G1 (fs g3 (fs g4 (fs h1 (fs h1' (fs h2 (fs h2' (fs h3 h3'))))))) ?_; try with_reducible exact tt
     refine CallS.pu (hc) (R1 (fs g3 (fs g4 (fs h1 (fs h1' (fs h2 (fs h2' (fs h3 h3'))))))) ?_); try with_reducible exact tt
     exact Sub1.bool (by rw [Bool.eq_iff_iff]; simp; omega)
   | false =>
    refine G1 (fs g3 (fs g4 (fs h1 (fs h1' (fs h2 h2'))))) ?_; try with_reducible exact tt
    refine CallS.pu (hc) (R1 (fs g3 (fs g4 (fs h1 (fs h1' (fs h2 h2'))))) ?_); try with_reducible exact tt
  ·have h2' : ¬ (t : Int) ≤ b := by omega
   refine G1 (fs g3 (fs g4 (fs h1 (fs h1' (fs h2 h2'))))) ?_; try with_reducible exact tt
   refine CallS.pu (hc) (R1 (fs g3 (fs g4 (fs h1 (fs h1' (fs h2 h2'))))) ?_); try with_reducible exact tt
 ·have h1' : ¬ (y : Int) ≤ a := by omega
  refine G1 (fs g3 (fs g4 (fs h1 h1'))) ?_; try with_reducible exact tt
  refine CallS.pu (hc) (R1 (fs g3 (fs g4 (fs h1 h1'))) ?_); try with_reducible exact tt

theorem o_oh (k a b : Int) : Eqn Tryz.prog o_9i [.d (parD k a b)] [] (.d (tpD a b)) [] := by
 refine Eqn.pure o_9k Plain.ok ?_
 simp only [o_9j, parD, tpD]
 refine G0 ?_; try with_reducible exact tt
theorem o_oi (k a b : Int) : Eqn Tryz.prog o_9o [.d (parD k a b)] [] (.d (parD k a b)) [] := by
 refine Eqn.pure o_9q Plain.ok ?_
 simp only [o_9p, parD]
 refine G0 ?_; try with_reducible exact tt
theorem o_oj (y t : Int) (f : Bool) : Eqn Tryz.prog o_9l [.d (.agg [.int .i64 y, .int .i64 t, .bool f])] [] (.d (.agg [.int .i64 y, .int .i64 t, .bool f])) [] := by
 refine Eqn.pure o_9n Plain.ok ?_
 simp only [o_9m]
 refine G0 ?_; try with_reducible exact tt
theorem o_ok {k a b : Nat} (h : GoodR k a b) : Eqn Tryz.prog o_9r [.d (parD k a b)] [] (.d (.int .i64 0)) [] := by
 refine Eqn.pure o_9t Plain.ok ?_
 rcases h with ⟨rfl, h⟩ | ⟨hk, h⟩
 ·have h1 := o_oh 4 a b
  have h2 := o_o4 h
  simp only [o_9s, parD, tpD] at h1 h2 ⊢
  refine G0 ?_; try with_reducible exact tt
  refine AW.cond rfl (fun h => ?_) (fun h => ?_)
  ·refine G0 ?_; try with_reducible exact tt
   refine CallS.pu (h1) (R0 ?_); try with_reducible exact tt
   refine CallS.pu (h2) (R0 ?_); try with_reducible exact tt
  ·simp at h
 ·have h1 := o_oi k a b
  have h2 := o_o6 h
  have hk' : ¬ (k : Int) = 4 := by omega
  simp only [o_9s, parD] at h1 h2 ⊢
  refine G1 (fs hk hk') ?_; try with_reducible exact tt
  refine AW.cond rfl (fun h => ?_) (fun h => ?_)
  ·simp [hk'] at h
  ·refine G0 ?_; try with_reducible exact tt
   refine CallS.pu (h1) (R0 ?_); try with_reducible exact tt
   refine CallS.pu (h2) (R0 ?_); try with_reducible exact tt

def wellRB (k a b y t : Nat) (f : Bool) : Bool := if k = 4 then wellTB a b y t f else (t == 0) && (decide (y ≤ 2 ^ b - 1) && (!f || y == 2 ^ b - 1))
theorem o_ol {k a b y t : Nat} {f : Bool} : wellRB k a b y t f = true ↔ WellR k a b y t f := by
 unfold wellRB WellR wellTB WellT
 by_cases hk : k = 4
 ·subst hk
  simp
  intro _ _
  cases f <;> simp
 ·simp [hk]
  intro _ _
  cases f <;> simp

theorem o_om {k a b : Nat} (h : GoodR k a b) (y t : Nat) (f : Bool) : Eqn Tryz.prog o_89 [.d (parD k a b), .d (tsD y t f)] [] (.d (.bool (wellRB k a b y t f))) [] := by
 refine Eqn.pure o_8b Plain.ok ?_
 have hc := o_ok h
 rcases h with ⟨rfl, h⟩ | ⟨hk, h⟩
 ·have h1 := o_oh 4 a b
  have h2 := o_og h y t f
  have h3 := o_oj y t f
  simp only [o_8a, parD, tpD, tsD, wellRB, if_true] at hc h1 h2 h3 ⊢
  generalize wellTB a b y t f = w at *
  refine G0 ?_; try with_reducible exact tt
  refine CallS.pu (hc) (R0 ?_); try with_reducible exact tt
  refine AW.cond rfl (fun h => ?_) (fun h => ?_)
  ·simp at h
  refine G0 ?_; try with_reducible exact tt
  refine AW.cond rfl (fun h => ?_) (fun h => ?_)
  ·refine G0 ?_; try with_reducible exact tt
   refine CallS.pu (h1) (R0 ?_); try with_reducible exact tt
   refine CallS.pu (h3) (R0 ?_); try with_reducible exact tt
   refine CallS.pu (h2) (R0 ?_); try with_reducible exact tt
  ·simp at h
 ·have h1 := o_oi k a b
  have h2 := o_nm k a b h.2.2 (o_o6 h)
  have hk' : ¬ (k : Int) = 4 := by omega
  have g : (0 : Int) ≤ y := by omega
  simp only [o_8a, parD, tsD, wellRB, if_neg hk] at hc h1 h2 ⊢
  generalize 2 ^ b - 1 = S at *
  by_cases ht : t = 0
  ·subst ht
   by_cases hy : y ≤ S
   ·have hy' : (y : Int) ≤ S := by omega
    cases f with
    | true =>
     by_cases hs : y = S
     ·subst hs
      refine G1 (fs g (fs hk hk')) ?_; try with_reducible exact tt
      refine CallS.pu (hc) (R1 (fs g (fs hk hk')) ?_); try with_reducible exact tt
      refine AW.cond rfl (fun h => ?_) (fun h => ?_)
      ·simp at h
      refine G1 (fs g (fs hk hk')) ?_; try with_reducible exact tt
      refine AW.cond rfl (fun h => ?_) (fun h => ?_)
      ·simp [hk'] at h
      refine G1 g ?_; try with_reducible exact tt
      refine CallS.pu (h1) (R1 g ?_); try with_reducible exact tt
      refine CallS.pu (h2) (R1 g ?_); try with_reducible exact tt
     ·have hs' : ¬ (y : Int) = S := by omega
      refine G1 (fs g (fs hk (fs hk' (fs hy (fs hy' (fs hs hs')))))) ?_; try with_reducible exact tt
      refine CallS.pu (hc) (R1 (fs g (fs hk (fs hk' (fs hy (fs hy' (fs hs hs')))))) ?_); try with_reducible exact tt
      refine AW.cond rfl (fun h => ?_) (fun h => ?_)
      ·simp at h
      refine G1 (fs g (fs hk (fs hk' (fs hy (fs hy' (fs hs hs')))))) ?_; try with_reducible exact tt
      refine AW.cond rfl (fun h => ?_) (fun h => ?_)
      ·simp [hk'] at h
      refine G1 g ?_; try with_reducible exact tt
      refine CallS.pu (h1) (R1 g ?_); try with_reducible exact tt
      refine CallS.pu (h2) (R1 (fs g (fs hy (fs hy' (fs hs hs')))) ?_); try with_reducible exact tt
      exact Sub1.bool (by rw [Bool.eq_iff_iff]; simp; omega)
    | false =>
     refine G1 (fs g (fs hk (fs hk' (fs hy hy')))) ?_; try with_reducible exact tt
     refine CallS.pu (hc) (R1 (fs g (fs hk (fs hk' (fs hy hy')))) ?_); try with_reducible exact tt
     refine AW.cond rfl (fun h => ?_) (fun h => ?_)
     ·simp at h
     refine G1 (fs g (fs hk (fs hk' (fs hy hy')))) ?_; try with_reducible exact tt
     refine AW.cond rfl (fun h => ?_) (fun h => ?_)
     ·simp [hk'] at h
     refine G1 g ?_; try with_reducible exact tt
     refine CallS.pu (h1) (R1 g ?_); try with_reducible exact tt
     refine CallS.pu (h2) (R1 (fs g (fs hy hy')) ?_); try with_reducible exact tt
   ·have hy' : ¬ (y : Int) ≤ S := by omega
    refine G1 (fs g (fs hk (fs hk' (fs hy hy')))) ?_; try with_reducible exact tt
    refine CallS.pu (hc) (R1 (fs g (fs hk (fs hk' (fs hy hy')))) ?_); try with_reducible exact tt
    refine AW.cond rfl (fun h => ?_) (fun h => ?_)
    ·simp at h
    refine G1 (fs g (fs hk (fs hk' (fs hy hy')))) ?_; try with_reducible exact tt
    refine AW.cond rfl (fun h => ?_) (fun h => ?_)
    ·simp [hk'] at h
    refine G1 g ?_; try with_reducible exact tt
    refine CallS.pu (h1) (R1 g ?_); try with_reducible exact tt
    refine CallS.pu (h2) (R1 (fs g (fs hy hy')) ?_); try with_reducible exact tt
  ·have ht' : ¬ (t : Int) = 0 := by omega
   refine G1 (fs g (fs hk (fs hk' (fs ht ht')))) ?_; try with_reducible exact tt
   refine CallS.pu (hc) (R1 (fs g (fs hk (fs hk' (fs ht ht')))) ?_); try with_reducible exact tt
   refine AW.cond rfl (fun h => ?_) (fun h => ?_)
   ·simp at h
   refine G1 (fs g (fs hk (fs hk' (fs ht ht')))) ?_; try with_reducible exact tt
   refine AW.cond rfl (fun h => ?_) (fun h => ?_)
   ·simp [hk'] at h
   refine G1 g ?_; try with_reducible exact tt
   refine CallS.pu (h1) (R1 g ?_); try with_reducible exact tt
   refine CallS.pu (h2) (R1 (fs g (fs ht ht')) ?_); try with_reducible exact tt
   exact Sub1.bool (by simp [ht])
end
end Go.Proofs.YtafdpoibkmhgcaaGreatDoor.Am
namespace Go.Proofs.YtafdpoibkmhgcaaGreatDoor.Am
section
open Go.RowKit
def stR (R : TR) (y t : Nat) (f : Bool) : D := if R.e = 0 then tsD R.y R.t R.f else tsD y t f
end
end Go.Proofs.YtafdpoibkmhgcaaGreatDoor.Am
namespace Go.Proofs.YtafdpoibkmhgcaaGreatDoor.Am
section
open Go.RowKit
def kwR (k a b : Nat) : Nat := if k = 4 then bitsN a else b
def twR (k b : Nat) : Nat := if k = 4 then bitsN b else 0
def encR (k a b y t : Nat) (f : Bool) : List Bool := bitsW y (kwR k a b) ++ bitsW t (twR k b) ++ [f]
def readR (ws : List Nat) (k a b at_ : Nat) : (Nat × Nat × Bool) × Int × Nat :=
 if 8 * ws.length - at_ < kwR k a b + twR k b + 1 then ((0, 0, false), 5, at_)
 else if wellRB k a b (numAt ws at_ (kwR k a b)) (numAt ws (at_ + kwR k a b) (twR k b)) ((bitsOf ws).getD (at_ + kwR k a b + twR k b) false) then ((numAt ws at_ (kwR k a b), numAt ws (at_ + kwR k a b) (twR k b), (bitsOf ws).getD (at_ + kwR k a b + twR k b) false), 0, at_ + kwR k a b + twR k b + 1)
 else ((0, 0, false), 4, at_ + kwR k a b + twR k b + 1)
end
end Go.Proofs.YtafdpoibkmhgcaaGreatDoor.Am
namespace Go.Proofs.YtafdpoibkmhgcaaGreatDoor.Am
section
open Go.RowKit
def SmallR (k a b : Nat) : Prop := k = 4 ∧ 1 ≤ a ∧ a ≤ 8 ∧ b ≤ 3 ∨ k ≠ 4 ∧ GoodS k a b
theorem o_on (k a b : Int) : Eqn Tryz.prog o_6o [.d (parD k a b)] [] (.d (parD k a b)) [] := by
 refine Eqn.pure o_6q Plain.ok ?_
 simp only [o_6p, parD]
 refine G0 ?_; try with_reducible exact tt
theorem o_oo (y t : Int) (f : Bool) : Eqn Tryz.prog o_6u [.d (.agg [.int .i64 y, .int .i64 t, .bool f])] [] (.d (.agg [.int .i64 y, .int .i64 t, .bool f])) [] := by
 refine Eqn.pure o_6w Plain.ok ?_
 simp only [o_6v]
 refine G0 ?_; try with_reducible exact tt

theorem o_op (y : Int) (m n : Nat) (hm : m ≤ 1000000) (hn : n ≤ 1000000) : ∃ (N Y : Nat), bits BinOp.and IntKind.i64 y (m : Int) = N ∧ IntKind.i64.wrap ((n : Int) + 1) = (n : Int) + 1 ∧ (N : Int).tmod ((n : Int) + 1) = Y ∧ Y ≤ n := by
 obtain ⟨N, h1, h2, h3⟩ := o_nr y m (by omega)
 have hY : N % (n + 1) ≤ n := by have := Nat.mod_lt N (show 0 < n + 1 by omega); omega
 refine ⟨N, N % (n + 1), h1, w64 (by omega) (by omega), ?_, hY⟩
 rw [Int.tmod_eq_emod_of_nonneg (by omega)]; norm_cast

theorem o_oq {k a b : Nat} (h : SmallR k a b) (y t : Int) (f : Bool) : ∃ (Y T : Nat) (F : Bool), WellR k a b Y T F ∧ Eqn Tryz.prog o_7l [.d (parD k a b), .d (.agg [.int .i64 y, .int .i64 t, .bool f])] [] (.d (tsD Y T F)) [] := by
 rcases h with ⟨rfl, h1, h2, h3⟩ | ⟨hk, h⟩
 ·obtain ⟨N1, Y, a1, a2, a3, a4⟩ := o_op y 7 a (by omega) (by omega)
  obtain ⟨N2, T, b1, b2, b3, b4⟩ := o_op t 3 b (by omega) (by omega)
  replace a1 : bits BinOp.and IntKind.i64 y 7 = N1 := a1
  replace b1 : bits BinOp.and IntKind.i64 t 3 = N2 := b1
  refine ⟨Y, T, f && (T == b), .inl ⟨rfl, a4, b4, by simp⟩, ?_⟩
  refine Eqn.pure o_7n Plain.ok ?_
  have hF : ((T : Int) == (b : Int)) = (T == b) := by rw [Bool.eq_iff_iff]; simp; omega
  simp only [o_7m, parD, tsD]
  generalize (T == b) = F at *
  cases f with
  | true =>
   refine G0B ?_; try with_reducible exact tt
   refine AW.cond rfl (fun h => ?_) (fun h => ?_)
   ·refine G1B (fs a1 (fs a2 (fs a3 (fs b1 (fs b2 (fs b3 hF)))))) ?_; try with_reducible exact tt
   ·simp at h
  | false =>
   refine G0B ?_; try with_reducible exact tt
   refine AW.cond rfl (fun h => ?_) (fun h => ?_)
   ·refine G1B (fs a1 (fs a2 (fs a3 (fs b1 (fs b2 (fs b3 hF)))))) ?_; try with_reducible exact tt
   ·simp at h
 ·have hW : 2 ^ b - 1 ≤ 15 := by have := Nat.pow_le_pow_right (n := 2) (by omega) h.2.2; omega
  have hb2 : 0 < 2 ^ b := Nat.two_pow_pos b
  obtain ⟨N1, Y, a1, a2, a3, a4⟩ := o_op y 15 (2 ^ b - 1) (by omega) (by omega)
  replace a1 : bits BinOp.and IntKind.i64 y 15 = N1 := a1
  refine ⟨Y, 0, f && (Y == 2 ^ b - 1), .inr ⟨hk, rfl, a4, by simp⟩, ?_⟩
  refine Eqn.pure o_7n Plain.ok ?_
  have hF : ((Y : Int) == ((2 ^ b - 1 : Nat) : Int)) = (Y == 2 ^ b - 1) := by rw [Bool.eq_iff_iff]; simp only [beq_iff_eq]; omega
  have e0 : (2 : Int) ^ b = (2 ^ b : Nat) := by rw [Int.natCast_pow]; rfl
  have hk' : ¬ (k : Int) = 4 := by omega
  have hb64 : b ≤ 64 := by have := h.2.2; omega
  simp only [o_7m, parD, tsD]
  generalize (Y == 2 ^ b - 1) = F at *
  generalize 2 ^ b = S at *
  have e3 : IntKind.i64.wrap (S : Int) = S := w64 (by omega) (by omega)
  have e4 : IntKind.i64.wrap ((S : Int) - 1) = ((S - 1 : Nat) : Int) := by rw [w64 (by omega) (by omega)]; omega
  generalize S - 1 = S1 at *
  cases f with
  | true =>
   refine G1B (fs hk hk') ?_; try with_reducible exact tt
   refine AW.cond rfl (fun h => ?_) (fun h => ?_)
   ·simp [hk'] at h
   ·refine G1B (fs a1 (fs a2 (fs a3 (fs e0 (fs e3 (fs e4 (fs hF hb64))))))) ?_; try with_reducible exact tt
  | false =>
   refine G1B (fs hk hk') ?_; try with_reducible exact tt
   refine AW.cond rfl (fun h => ?_) (fun h => ?_)
   ·simp [hk'] at h
   ·refine G1B (fs a1 (fs a2 (fs a3 (fs e0 (fs e3 (fs e4 (fs hF hb64))))))) ?_; try with_reducible exact tt

theorem o_or (k a b : Int) : ∃ K A B : Nat, SmallR K A B ∧ ∀ (y t : Int) (f : Bool), ∃ (Y T : Nat) (F : Bool), WellR K A B Y T F ∧ Eqn Tryz.prog o_6l [.d (parD k a b), .d (.agg [.int .i64 y, .int .i64 t, .bool f])] [] (.tup [.d (parD K A B), .d (tsD Y T F)]) [] := by
 obtain ⟨e1, K, e2, hK, e3⟩ := o_nq k 4 (by omega) (by omega)
 obtain ⟨B1, B2, b1, b2, b3, b4⟩ := o_op b 255 3 (by omega) (by omega)
 replace b1 : bits BinOp.and IntKind.i64 b 255 = B1 := b1
 replace b3 : (B1 : Int).tmod 4 = B2 := b3
 obtain ⟨B3, d1, d2, d3⟩ := o_nr b 3 (by omega)
 obtain ⟨A1, a1, a2, a3⟩ := o_nr a 3 (by omega)
 obtain ⟨A2, a4, a5, a6⟩ := o_nr a 1 (by omega)
 obtain ⟨A3, a7, a8, a9⟩ := o_nr a 7 (by omega)
 replace a1 : bits BinOp.and IntKind.i64 a 3 = A1 := a1
 replace a4 : bits BinOp.and IntKind.i64 a 1 = A2 := a4
 replace a7 : bits BinOp.and IntKind.i64 a 7 = A3 := a7
 replace d1 : bits BinOp.and IntKind.i64 b 3 = B3 := d1
 have e4 : IntKind.i64.wrap (1 + (B2 : Int)) = ((1 + B2 : Nat) : Int) := by rw [w64 (by omega) (by omega)]; omega
 have hK' : K = 0 ∨ K = 1 ∨ K = 2 ∨ K = 3 := by omega
 rcases hK' with rfl | rfl | rfl | rfl
 ·refine ⟨1, 1 + A1, 1 + B2, .inr ⟨by omega, by omega, by omega, by omega⟩, fun y t f => ?_⟩
  obtain ⟨Y, T, F, hw, hE⟩ := o_oq (k := 1) (a := 1 + A1) (b := 1 + B2) (.inr ⟨by omega, by omega, by omega, by omega⟩) y t f
  refine ⟨Y, T, F, hw, ?_⟩
  refine Eqn.pure o_6n Plain.ok ?_
  simp only [o_6m, parD, tsD] at hE ⊢
  generalize 1 + A1 = XA at *
  generalize 1 + B2 = XB at *
  refine G1B (fs e1 (fs e2 e3)) ?_; try with_reducible exact tt
  refine AW.cond rfl (fun h => ?_) (fun h => ?_)
  ·refine G1B (fs b1 (fs b3 (fs e4 (fs a1 a3)))) ?_; try with_reducible exact tt
   simp at hE
   refine CallS.pu (hE) (R0B ?_); try with_reducible exact tt
  ·simp at h
 ·refine ⟨2, A2, 1 + B2, .inr ⟨by omega, by omega, by omega, by omega⟩, fun y t f => ?_⟩
  obtain ⟨Y, T, F, hw, hE⟩ := o_oq (k := 2) (a := A2) (b := 1 + B2) (.inr ⟨by omega, by omega, by omega, by omega⟩) y t f
  refine ⟨Y, T, F, hw, ?_⟩
  refine Eqn.pure o_6n Plain.ok ?_
  simp only [o_6m, parD, tsD] at hE ⊢
  generalize 1 + B2 = XB at *
  refine G1B (fs e1 (fs e2 e3)) ?_; try with_reducible exact tt
  refine AW.cond rfl (fun h => ?_) (fun h => ?_)
  ·simp at h
  refine G0B ?_; try with_reducible exact tt
  refine AW.cond rfl (fun h => ?_) (fun h => ?_)
  ·refine G1B (fs b1 (fs b3 (fs e4 a4))) ?_; try with_reducible exact tt
   simp at hE
   refine CallS.pu (hE) (R0B ?_); try with_reducible exact tt
  ·simp at h
 ·refine ⟨3, 1 + A2, 1 + B2, .inr ⟨by omega, by omega, by omega, by omega⟩, fun y t f => ?_⟩
  obtain ⟨Y, T, F, hw, hE⟩ := o_oq (k := 3) (a := 1 + A2) (b := 1 + B2) (.inr ⟨by omega, by omega, by omega, by omega⟩) y t f
  refine ⟨Y, T, F, hw, ?_⟩
  refine Eqn.pure o_6n Plain.ok ?_
  simp only [o_6m, parD, tsD] at hE ⊢
  generalize 1 + A2 = XA at *
  generalize 1 + B2 = XB at *
  refine G1B (fs e1 (fs e2 e3)) ?_; try with_reducible exact tt
  refine AW.cond rfl (fun h => ?_) (fun h => ?_)
  ·simp at h
  refine G0B ?_; try with_reducible exact tt
  refine AW.cond rfl (fun h => ?_) (fun h => ?_)
  ·simp at h
  refine G0B ?_; try with_reducible exact tt
  refine AW.cond rfl (fun h => ?_) (fun h => ?_)
  ·refine G1B (fs b1 (fs b3 (fs e4 (fs a4 a6)))) ?_; try with_reducible exact tt
   simp at hE
   refine CallS.pu (hE) (R0B ?_); try with_reducible exact tt
  ·simp at h
 ·refine ⟨4, 1 + A3, B3, .inl ⟨rfl, by omega, by omega, by omega⟩, fun y t f => ?_⟩
  obtain ⟨Y, T, F, hw, hE⟩ := o_oq (k := 4) (a := 1 + A3) (b := B3) (.inl ⟨rfl, by omega, by omega, by omega⟩) y t f
  refine ⟨Y, T, F, hw, ?_⟩
  refine Eqn.pure o_6n Plain.ok ?_
  simp only [o_6m, parD, tsD] at hE ⊢
  generalize 1 + A3 = XA at *
  refine G1B (fs e1 (fs e2 e3)) ?_; try with_reducible exact tt
  refine AW.cond rfl (fun h => ?_) (fun h => ?_)
  ·simp at h
  refine G0B ?_; try with_reducible exact tt
  refine AW.cond rfl (fun h => ?_) (fun h => ?_)
  ·simp at h
  refine G0B ?_; try with_reducible exact tt
  refine AW.cond rfl (fun h => ?_) (fun h => ?_)
  ·simp at h
  ·refine G1B (fs d1 (fs a7 a9)) ?_; try with_reducible exact tt
   simp at hE
   refine CallS.pu (hE) (R0B ?_); try with_reducible exact tt
end
end Go.Proofs.YtafdpoibkmhgcaaGreatDoor.Am
namespace Go.Proofs.YtafdpoibkmhgcaaGreatDoor.Am
section
open Go.RowKit
end
end Go.Proofs.YtafdpoibkmhgcaaGreatDoor.Am
namespace Go.Proofs.YtafdpoibkmhgcaaGreatDoor.Am
section
open Go.RowKit
end
end Go.Proofs.YtafdpoibkmhgcaaGreatDoor.Am
namespace Go.Proofs.YtafdpoibkmhgcaaGreatDoor.Am
section
open Go.RowKit

theorem o_os {P : Program} {f : FuncId} {c : C} {rs : List RV} {nt : Nat} (hf : fnOf P f = some (c, rs, nt, false)) (vs : Array Value) (w : World) : (callFunc f vs).run P w = .ok (.enter f vs) w := by
 unfold fnOf at hf
 split at hf
 ·rename_i fn hfn
  split at hf
  ·rename_i b hb
   simp only [Option.some.injEq, Prod.mk.injEq] at hf
   obtain ⟨h1, h2, h3, h4⟩ := hf
   have h1 : ¬ fn.name = "runtime.NumGoroutine" := by simpa using h4
   simp [callFunc, hfn, h1, hb]
  ·cases hf
 ·cases hf

abbrev memW (W : World) : Mem := ⟨fun _ => none, fun b => b < W.heap.size, W⟩

theorem o_ot {m : Mem} (h : ∀ g, tab g = none) : Tabs m := fun g l hg => by rw [h g] at hg; cases hg
theorem o_ou {P : Program} {f : FuncId} {args : List V} {c : C} {rs : List RV} {nt : Nat} (hf : fnOf P f = some (c, rs, nt, false)) (E : Eqn P f args [] (.d (.bool true)) []) {W : World} {vs : List Value} (h : V.reps (memW W) args vs) (ht : Tabs (memW W)) :
  Calls P f vs.toArray W (fun e W' => e = .returned (.bool true) ∧ Same W W') := by
 rcases E.run (memW W) vs ⟨fun b h => h, fun n b h => (by cases h), ht⟩ h (by simp) (fun n i b h => by simp at h) (fun _ _ => rfl) with ⟨v, h1, _⟩ | ⟨_, h2⟩
 ·rw [o_os hf] at h1; cases h1
 ·refine h2.mono ?_
  rintro e w' ⟨v, m', rfl, rfl, hE⟩
  have hv := hE.rep
  rw [V.rep_d] at hv
  unfold D.rep at hv
  subst hv
  exact ⟨rfl, hE.le.os, hE.le.tape, hE.le.output, hE.le.size, fun k hk _ => hE.le.imm k hk⟩

theorem law_walk {P : Program} {f : FuncId} {args : List V} {c : C} {rs : List RV} {nt : Nat} (hf : fnOf P f = some (c, rs, nt, false)) (E : Eqn P f args [] (.d (.bool true)) []) {W : World} {vs : List Value} (h : V.reps (memW W) args vs) (ht : Tabs (memW W) := by exact o_ot fun _ => rfl) :
  Calls P f vs.toArray W (fun e W' => e = .returned (.bool true) ∧ Same W W') := o_ou hf E h ht

theorem reps_of {I : Nat → Prop} {w : World} {α : Type} (f : α → D) (g : α → Value) (h : ∀ a, D.rep I w (f a) (g a)) : ∀ l : List α, D.reps I w (l.map f) (l.map g)
 | [] => by simp
 | a :: l => by
  rw [List.map_cons, List.map_cons, D.reps_cons]
  exact ⟨h a, reps_of f g h l⟩

theorem o_ov {W : World} {l : List D} {vs : List Value} (h1 : ∀ u ∈ vs, u.oneCell' = true) (h : D.reps (fun b => b < W.heap.size) W l vs) : V.rep (memW W) (.d (.agg l)) (.agg vs.toArray) := by
 rw [V.rep_d]
 unfold D.rep
 exact ⟨vs, rfl, h1, h⟩
end
end Go.Proofs.YtafdpoibkmhgcaaGreatDoor.Am
namespace Go.Proofs.YtafdpoibkmhgcaaGreatDoor.Am
section
open Go.RowKit
def actM (cs : List Bool) (k a b y t : Nat) (f : Bool) (z u : Nat) (g : Bool) (n : Nat) (m : Bool) (p : Nat) (d : Bool) : TR := if m then mergeRM cs k a b y t f z u g p d else addRM cs k a b n y t f p d
end
end Go.Proofs.YtafdpoibkmhgcaaGreatDoor.Am
namespace Go.Proofs.YtafdpoibkmhgcaaGreatDoor.Am
section
open Go.RowKit
@[simp] theorem o_ow (l : List D) : V.toDs (l.map .d) = some l := by induction l <;> simp_all [V.toDs]
abbrev St := Nat × Nat × Bool
def stD (s : St) : List D := [.int .i64 s.1, .int .i64 s.2.1, .bool s.2.2]
@[simp] theorem o_ox (s : St) : (stD s).length = 3 := rfl
theorem o_oy (s t : St) : eqKs [0, 0, 1] (stD s) (stD t) = some (decide (s = t)) := by
 obtain ⟨a, b, c⟩ := s
 obtain ⟨a', b', c'⟩ := t
 unfold stD eqKs
 simp only [eqK, if_true, eqKs]
 simp only [Option.some.injEq, Bool.and_true]
 rw [Bool.eq_iff_iff]
 simp only [Bool.and_eq_true, beq_iff_eq, decide_eq_true_eq, Prod.mk.injEq]
 constructor
 ·rintro ⟨h1, h2, h3⟩; exact ⟨by omega, by omega, h3⟩
 ·rintro ⟨h1, h2, h3⟩; exact ⟨by omega, by omega, h3⟩

abbrev Sp := List (St × Rat)
section
variable (rc : Rat → List D) (hrc : ∀ q, (rc q).length = 3)
def spD (l : Sp) : List D := l.flatMap fun p => stD p.1 ++ rc p.2
theorem o_oz (rc : Rat → List D) (hrc : ∀ q, (rc q).length = 3) (l : Sp) : (spD rc l).length = l.length * 6 := by
 induction l with
 | nil => rfl
 | cons p l ih => rw [spD, List.flatMap_cons, List.length_append, ← spD, ih]; simp [hrc]; omega
def idxQ (s : St) : Sp → Option Nat
 | [] => none
 | p :: l => if s = p.1 then some 0 else (idxQ s l).map (· + 1)
theorem o_p0 (rc : Rat → List D) (hrc : ∀ q, (rc q).length = 3) (s : St) : ∀ l : Sp, mfind [0, 0, 1] 3 (stD s) l.length (spD rc l) = some (idxQ s l)
 | [] => rfl
 | p :: l => by
  have e1 : (spD rc (p :: l)).take 3 = stD p.1 := by
   rw [spD, List.flatMap_cons, List.append_assoc, List.take_append_of_le_length (by simp), List.take_of_length_le (by simp)]
  have e2 : (spD rc (p :: l)).drop 6 = spD rc l := by
   rw [spD, List.flatMap_cons, List.drop_append, List.drop_eq_nil_of_le (by simp [hrc]), List.nil_append]
   simp [hrc, spD]
  simp only [List.length_cons, mfind, List.length_nil]
  rw [e1, o_oy, e2]
  by_cases h : s = p.1
  ·simp [h, idxQ]
  ·simp only [h, decide_false]
   rw [o_p0 rc hrc s l]
   simp [idxQ, h]
def getQ (l : Sp) (s : St) : Rat := match l with
 | [] => 0
 | p :: r => if s = p.1 then p.2 else getQ r s
def setQ (l : Sp) (s : St) (q : Rat) : Sp := match l with
 | [] => [(s, q)]
 | p :: r => if s = p.1 then (s, q) :: r else p :: setQ r s q
theorem o_p1 (s t : St) (q : Rat) : ∀ l : Sp, getQ (setQ l s q) t = if t = s then q else getQ l t
 | [] => by simp [setQ, getQ]
 | p :: r => by
  unfold setQ
  split
  ·rename_i e
   unfold getQ
   by_cases h : t = s
   ·simp [h]
   ·simp [h, show ¬ t = p.1 from fun h' => h (h'.trans e.symm)]
  ·rename_i e
   unfold getQ
   rw [o_p1 s t q r]
   by_cases h : t = s
   ·subst h; simp [e]
   ·simp [h]
theorem o_p2 (s : St) (q : Rat) : ∀ l : Sp, (setQ l s q).map (·.1) = if s ∈ l.map (·.1) then l.map (·.1) else l.map (·.1) ++ [s]
 | [] => by simp [setQ]
 | p :: r => by
  unfold setQ
  split
  ·rename_i e; simp [e]
  ·rename_i e
   simp only [List.map_cons, o_p2 s q r, List.mem_cons]
   by_cases h : s ∈ r.map (·.1)
   ·simp [h]
   ·simp [h, e]
theorem o_p3 {s : St} {q : Rat} {l : Sp} (h : (l.map (·.1)).Nodup) : ((setQ l s q).map (·.1)).Nodup := by
 rw [o_p2]
 split
 ·exact h
 ·rename_i hs
  rw [List.nodup_append]
  refine ⟨h, by simp, fun a ha b hb => ?_⟩
  simp at hb; subst hb
  exact fun e => hs (e ▸ ha)
def lookD (z : List D) (s : St) : Sp → D
 | [] => .agg z
 | p :: r => if s = p.1 then .agg (rc p.2) else lookD z s r
theorem o_p4 (rc : Rat → List D) (hrc : ∀ q, (rc q).length = 3) (s : St) (l : Sp) (z : List D) : mlook [0, 0, 1] 3 true z (stD s) (spD rc l) = some (lookD rc z s l) := by
 unfold mlook
 have hn : (spD rc l).length / ([0, 0, 1].length + 3) = l.length := by rw [o_oz rc hrc]; simp
 rw [hn, o_p0 rc hrc]
 simp only [Option.map_some, Option.some.injEq]
 have key : ∀ l : Sp, (match idxQ s l with
   | some i => glD true (((spD rc l).drop (i * ([0, 0, 1].length + 3) + [0, 0, 1].length)).take 3)
   | none => glD true z) = lookD rc z s l := by
  intro l
  induction l with
  | nil => simp [idxQ, glD, lookD]
  | cons p l ih =>
   by_cases h : s = p.1
   ·have e1 : ((spD rc (p :: l)).drop 3).take 3 = rc p.2 := by
     rw [spD, List.flatMap_cons, List.append_assoc, List.drop_append, List.drop_eq_nil_of_le (by simp), List.nil_append]
     simp [hrc]
    simp [idxQ, h, lookD, glD, e1]
   ·have e2 : (spD rc (p :: l)).drop 6 = spD rc l := by
     rw [spD, List.flatMap_cons, List.drop_append, List.drop_eq_nil_of_le (by simp [hrc]), List.nil_append]
     simp [hrc, spD]
    rw [lookD, if_neg h, ← ih]
    simp only [idxQ, if_neg h]
    cases hi : idxQ s l with
    | none => rfl
    | some i =>
     simp only [Option.map_some]
     have : (i + 1) * ([0, 0, 1].length + 3) + [0, 0, 1].length = 6 + (i * ([0, 0, 1].length + 3) + [0, 0, 1].length) := by simp; omega
     rw [this, ← List.drop_drop, e2]
 exact key l
theorem o_p5 (rc : Rat → List D) (hrc : ∀ q, (rc q).length = 3) (s : St) (l : Sp) (q : Rat) : mset [0, 0, 1] 3 (stD s) (rc q) (spD rc l) = some (spD rc (setQ l s q)) := by
 unfold mset
 have hn : (spD rc l).length / ([0, 0, 1].length + 3) = l.length := by rw [o_oz rc hrc]; simp
 rw [hn, o_p0 rc hrc]
 simp only [Option.map_some, Option.some.injEq]
 have key : ∀ l : Sp, (match idxQ s l with
   | some i => (spD rc l).take (i * ([0, 0, 1].length + 3)) ++ (stD s ++ rc q) ++ (spD rc l).drop ((i + 1) * ([0, 0, 1].length + 3))
   | none => spD rc l ++ (stD s ++ rc q)) = spD rc (setQ l s q) := by
  intro l
  induction l with
  | nil => simp [idxQ, setQ, spD]
  | cons p l ih =>
   have e2 : (spD rc (p :: l)).drop 6 = spD rc l := by
    rw [spD, List.flatMap_cons, List.drop_append, List.drop_eq_nil_of_le (by simp [hrc]), List.nil_append]
    simp [hrc, spD]
   have e3 : spD rc (p :: l) = (stD p.1 ++ rc p.2) ++ spD rc l := by rw [spD, List.flatMap_cons]; rfl
   by_cases h : s = p.1
   ·simp only [idxQ, if_pos h, setQ]
    simp only [Nat.zero_mul, List.take_zero, Nat.zero_add, Nat.one_mul, List.nil_append]
    rw [show [0, 0, 1].length + 3 = 6 from rfl, e2]
    rw [show spD rc ((s, q) :: l) = (stD s ++ rc q) ++ spD rc l by rw [spD, List.flatMap_cons]; rfl]
   ·simp only [idxQ, if_neg h, setQ]
    rw [show spD rc (p :: setQ l s q) = (stD p.1 ++ rc p.2) ++ spD rc (setQ l s q) by rw [spD, List.flatMap_cons]; rfl, ← ih]
    have hl6 : (stD p.1 ++ rc p.2).length = 6 := by simp [hrc]
    cases hi : idxQ s l with
    | none => simp only [Option.map_none]; rw [e3]; simp
    | some i =>
     simp only [Option.map_some]
     rw [show [0, 0, 1].length + 3 = 6 from rfl]
     have t1 : (spD rc (p :: l)).take ((i + 1) * 6) = (stD p.1 ++ rc p.2) ++ (spD rc l).take (i * 6) := by
      rw [e3, List.take_append, List.take_of_length_le (by omega), hl6, show (i + 1) * 6 - 6 = i * 6 by omega]
     have t2 : (spD rc (p :: l)).drop ((i + 1 + 1) * 6) = (spD rc l).drop ((i + 1) * 6) := by
      rw [show (i + 1 + 1) * 6 = 6 + (i + 1) * 6 by omega, ← List.drop_drop, e2]
     rw [t1, t2]
     simp
 exact key l
end
end
end Go.Proofs.YtafdpoibkmhgcaaGreatDoor.Am
namespace Go.Proofs.YtafdpoibkmhgcaaGreatDoor.Am
section
open Go.RowKit
def addQ (l : Sp) (s : St) (x : Rat) : Sp := setQ l s (getQ l s + x)
def exQ (g : St → Rat) : Sp → Rat
 | [] => 0
 | p :: l => p.2 * g p.1 + exQ g l
def Uq (l : Sp) : Prop := (l.map (·.1)).Nodup
theorem o_p6 (g : St → Rat) (s : St) (q : Rat) : ∀ l : Sp, Uq l → exQ g (setQ l s q) = exQ g l - getQ l s * g s + q * g s
 | [], _ => by simp only [setQ, exQ, getQ]; grind
 | p :: r, h => by
  have h' : Uq r := by unfold Uq at h ⊢; simp at h; exact h.2
  unfold setQ getQ
  split
  ·rename_i e
   simp only [exQ]
   rw [e]; grind
  ·simp only [exQ]
   rw [o_p6 g s q r h']; grind
theorem o_p7 {s : St} {q : Rat} {l : Sp} (h : Uq l) : Uq (addQ l s q) := o_p3 h
theorem o_p8 (g : St → Rat) (s : St) (q : Rat) (l : Sp) (h : Uq l) : exQ g (addQ l s q) = exQ g l + q * g s := by
 unfold addQ; rw [o_p6 g s _ l h]; grind
theorem o_p9 (g : St → Rat) {l k : Sp} (h : l.Perm k) : exQ g l = exQ g k := by
 induction h with
 | nil => rfl
 | cons x _ ih => simp only [exQ, ih]
 | swap x y l => simp only [exQ]; grind
 | trans _ _ h1 h2 => rw [h1, h2]
theorem o_pa (g : St → Rat) (l : Sp) : exQ g (l.filter fun p => decide (p.2 ≠ 0)) = exQ g l := by
 induction l with
 | nil => rfl
 | cons p l ih =>
  rw [List.filter_cons]
  split
  ·simp only [exQ, ih]
  ·rename_i h
   have : p.2 = 0 := by simpa using h
   simp only [exQ, ih, this]; grind
def ltS (s t : St) : Bool := decide (s.1 < t.1) || (decide (s.1 = t.1) && (decide (s.2.1 < t.2.1) || (decide (s.2.1 = t.2.1) && (!s.2.2 && t.2.2))))
theorem o_pb (s : St) : ltS s s = false := by unfold ltS; simp
theorem o_pc {s t u : St} (h1 : ltS s t = true) (h2 : ltS t u = true) : ltS s u = true := by
 obtain ⟨a, b, c⟩ := s; obtain ⟨a', b', c'⟩ := t; obtain ⟨a2, b2, c2⟩ := u
 unfold ltS at *
 simp only [Bool.or_eq_true, Bool.and_eq_true, decide_eq_true_eq, Bool.not_eq_true'] at *
 rcases h1 with h1 | ⟨h1, h1' | ⟨h1', h3, h4⟩⟩ <;> rcases h2 with h2 | ⟨h2, h2' | ⟨h2', h5, h6⟩⟩ <;> first | (left; omega) | (right; refine ⟨by omega, ?_⟩; first | (left; omega) | (right; exact ⟨by omega, by assumption, by assumption⟩))
theorem o_pd (s t : St) : ltS s t = true ∨ s = t ∨ ltS t s = true := by
 obtain ⟨a, b, c⟩ := s; obtain ⟨a', b', c'⟩ := t
 unfold ltS
 simp only [Bool.or_eq_true, Bool.and_eq_true, decide_eq_true_eq, Bool.not_eq_true', Prod.mk.injEq]
 rcases Nat.lt_trichotomy a a' with h | h | h
 ·left; left; exact h
 ·rcases Nat.lt_trichotomy b b' with h2 | h2 | h2
  ·left; right; exact ⟨h, .inl h2⟩
  ·cases c <;> cases c' <;> simp [h, h2]
  ·right; right; right; exact ⟨h.symm, .inl h2⟩
 ·right; right; left; exact h
def leP (p q : St × Rat) : Bool := !(ltS q.1 p.1)
theorem o_pe (a b c : St × Rat) (h1 : leP a b = true) (h2 : leP b c = true) : leP a c = true := by
 unfold leP at *
 simp only [Bool.not_eq_true'] at *
 cases h : ltS c.1 a.1 with
 | false => rfl
 | true =>
  rcases o_pd b.1 c.1 with h3 | h3 | h3
  ·rw [o_pc h3 h] at h1; cases h1
  ·rw [h3, h] at h1; cases h1
  ·rw [h3] at h2; cases h2
theorem o_pf (a b : St × Rat) : leP a b || leP b a := by
 unfold leP
 rcases o_pd a.1 b.1 with h | h | h
 ·have : ltS b.1 a.1 = false := by
   cases h2 : ltS b.1 a.1 with
   | false => rfl
   | true => have := o_pc h h2; rw [o_pb] at this; cases this
  simp [this]
 ·simp [h, o_pb]
 ·have : ltS a.1 b.1 = false := by
   cases h2 : ltS a.1 b.1 with
   | false => rfl
   | true => have := o_pc h h2; rw [o_pb] at this; cases this
  simp [this]
def nzQ (l : Sp) : Sp := l.filter fun p => decide (p.2 ≠ 0)
def atQ (l : Sp) : Sp := (nzQ l).mergeSort leP
theorem o_pg (l : Sp) : (atQ l).Perm (nzQ l) := List.mergeSort_perm _ _
theorem o_ph (g : St → Rat) (l : Sp) : exQ g (atQ l) = exQ g l := by rw [o_p9 g (o_pg l)]; exact o_pa g l
theorem o_pi {l : Sp} (h : Uq l) : Uq (nzQ l) := by
 unfold Uq nzQ at *
 exact List.Sublist.nodup ((List.filter_sublist (l := l)).map _) h
theorem o_pj {l : Sp} (h : Uq l) : Uq (atQ l) := by
 unfold Uq
 exact ((o_pg l).map _).nodup_iff.2 (o_pi h)
theorem o_pk {a b : St × Rat} : ∀ {l : Sp}, Uq l → a ∈ l → b ∈ l → a.1 = b.1 → a = b
 | [], _, h, _, _ => by cases h
 | p :: l, hu, ha, hb, e => by
  unfold Uq at hu
  rw [List.map_cons, List.nodup_cons] at hu
  rcases List.mem_cons.1 ha with h1 | h1 <;> rcases List.mem_cons.1 hb with h2 | h2
  ·rw [h1, h2]
  ·exact absurd (show p.1 ∈ l.map (·.1) from List.mem_map.2 ⟨b, h2, by rw [← e, h1]⟩) hu.1
  ·exact absurd (show p.1 ∈ l.map (·.1) from List.mem_map.2 ⟨a, h1, by rw [e, h2]⟩) hu.1
  ·exact o_pk hu.2 h1 h2 e
theorem o_pl {l k : Sp} (hu : Uq l) (hp : k.Perm (nzQ l)) (hs : k.Pairwise fun a b => ltS a.1 b.1 = true) : k = atQ l := by
 have h2 : (atQ l).Pairwise fun a b => leP a b = true := List.pairwise_mergeSort o_pe o_pf _
 refine List.Perm.eq_of_pairwise (le := fun a b => leP a b = true) ?_ (hs.imp ?_) h2 (hp.trans (o_pg l).symm)
 ·intro a b ha hb h3 h4
  have ha' : a ∈ nzQ l := hp.mem_iff.1 ha
  have hb' : b ∈ nzQ l := (o_pg l).mem_iff.1 hb
  have : a.1 = b.1 := by
   unfold leP at h3 h4
   rcases o_pd a.1 b.1 with h | h | h
   ·rw [h] at h4; simp at h4
   ·exact h
   ·rw [h] at h3; simp at h3
  exact o_pk (o_pi hu) ha' hb' this
 ·intro a b h
  unfold leP
  cases h2 : ltS b.1 a.1 with
  | false => rfl
  | true => have := o_pc h h2; rw [o_pb] at this; cases this
theorem o_pm (s : St) : ∀ l : Sp, Uq l → getQ l s = exQ (fun t => if t = s then 1 else 0) l
 | [], _ => rfl
 | p :: r, h => by
  have h' : Uq r := by unfold Uq at h ⊢; simp at h; exact h.2
  unfold getQ exQ
  split
  ·rename_i e
   have hz : exQ (fun t => if t = s then (1 : Rat) else 0) r = 0 := by
    rw [← o_pm s r h']
    have hn : s ∉ r.map (·.1) := by unfold Uq at h; rw [List.map_cons, List.nodup_cons] at h; rw [e]; exact h.1
    clear h h'
    induction r with
    | nil => rfl
    | cons q r ih =>
     simp only [List.map_cons, List.mem_cons, not_or] at hn
     unfold getQ
     rw [if_neg hn.1]
     exact ih hn.2
   rw [hz, if_pos e.symm]; grind
  ·rename_i e
   rw [o_pm s r h', if_neg fun e' => e e'.symm]; grind
theorem o_pn (s : St) {l : Sp} (h : Uq l) : getQ (atQ l) s = getQ l s := by
 rw [o_pm s _ (o_pj h), o_pm s _ h, o_ph]

def innQ (q : Rat) (out l : Sp) : Sp := l.foldl (fun o b => addQ o b.1 (q * b.2)) out
def timesQ (next : St → Sp) (l : Sp) : Sp := (atQ l).foldl (fun out a => innQ a.2 out (atQ (next a.1))) []
def eitQ (x : Rat) (s o : St) : Sp := addQ (addQ [] s x) o (1 - x)
def stepQ (top : Nat) (c : Nat → Rat) (s : St) : Sp := if s.1 = top then [((s.1, s.2.1, true), 1)] else eitQ (c s.1) (s.1 + 1, s.2) s
def ofQ (next : St → Sp) (s : St) : Nat → Sp
 | 0 => [(s, 1)]
 | n + 1 => timesQ next (ofQ next s n)
theorem o_po (g : St → Rat) (q : Rat) : ∀ (l out : Sp), Uq out → Uq (innQ q out l) ∧ exQ g (innQ q out l) = exQ g out + q * exQ g l
 | [], out, h => ⟨h, by simp only [innQ, List.foldl_nil, exQ]; grind⟩
 | b :: l, out, h => by
  obtain ⟨h1, h2⟩ := o_po g q l (addQ out b.1 (q * b.2)) (o_p7 h)
  refine ⟨h1, ?_⟩
  show exQ g (innQ q (addQ out b.1 (q * b.2)) l) = _
  rw [h2, o_p8 g _ _ _ h]
  simp only [exQ]; grind
theorem o_pp (g : St → Rat) (next : St → Sp) : ∀ (l out : Sp), Uq out → Uq (l.foldl (fun out a => innQ a.2 out (atQ (next a.1))) out) ∧ exQ g (l.foldl (fun out a => innQ a.2 out (atQ (next a.1))) out) = exQ g out + exQ (fun s => exQ g (next s)) l
 | [], out, h => ⟨h, by simp only [List.foldl_nil, exQ]; grind⟩
 | a :: l, out, h => by
  obtain ⟨h0, h3⟩ := o_po g a.2 (atQ (next a.1)) out h
  obtain ⟨h1, h2⟩ := o_pp g next l (innQ a.2 out (atQ (next a.1))) h0
  refine ⟨h1, ?_⟩
  show exQ g (l.foldl (fun out a => innQ a.2 out (atQ (next a.1))) (innQ a.2 out (atQ (next a.1)))) = _
  rw [h2, h3, o_ph]
  simp only [exQ]; grind
theorem o_pq (next : St → Sp) (l : Sp) : Uq (timesQ next l) := (o_pp (fun _ => 0) next (atQ l) [] (by simp [Uq])).1
theorem o_pr (g : St → Rat) (next : St → Sp) (l : Sp) : exQ g (timesQ next l) = exQ (fun s => exQ g (next s)) l := by
 have h := (o_pp g next (atQ l) [] (by simp [Uq])).2
 rw [o_ph] at h
 have e : exQ g [] = 0 := rfl
 rw [e] at h
 unfold timesQ
 rw [h]; grind
theorem o_ps (next : St → Sp) (s : St) : ∀ n, Uq (ofQ next s n)
 | 0 => by simp [ofQ, Uq]
 | n + 1 => o_pq _ _
theorem o_pt (g : St → Rat) (x : Rat) (s o : St) : Uq (eitQ x s o) ∧ exQ g (eitQ x s o) = x * g s + (1 - x) * g o := by
 have h0 : Uq ([] : Sp) := by simp [Uq]
 refine ⟨o_p7 (o_p7 h0), ?_⟩
 unfold eitQ
 rw [o_p8 g _ _ _ (o_p7 h0), o_p8 g _ _ _ h0]
 simp only [exQ]; grind
theorem o_pu (g : St → Rat) (top : Nat) (c : Nat → Rat) (s : St) : Uq (stepQ top c s) ∧ exQ g (stepQ top c s) = if s.1 = top then g (s.1, s.2.1, true) else c s.1 * g (s.1 + 1, s.2) + (1 - c s.1) * g s := by
 unfold stepQ
 split
 ·refine ⟨by simp [Uq], ?_⟩
  simp only [exQ]; grind
 ·exact o_pt g _ _ _
def okQ (top : Nat) (s : St) : Prop := s.1 ≤ top ∧ s.2.1 = 0 ∧ (s.2.2 = true → s.1 = top)
def oklQ (top : Nat) (l : Sp) : Prop := ∀ p ∈ l, okQ top p.1 ∧ 0 ≤ p.2
theorem o_pv {top : Nat} {g h : St → Rat} (hgh : ∀ s, okQ top s → g s ≤ h s) : ∀ {l : Sp}, oklQ top l → exQ g l ≤ exQ h l
 | [], _ => Rat.le_refl
 | p :: l, hl => by
  have h1 := o_pv hgh (l := l) fun q hq => hl q (by simp [hq])
  obtain ⟨h2, h3⟩ := hl p (by simp)
  have h4 := hgh p.1 h2
  simp only [exQ]
  have h5 : p.2 * g p.1 ≤ p.2 * h p.1 := Rat.mul_le_mul_of_nonneg_left h4 h3
  grind
theorem o_pw {l : Sp} {s : St} {q : Rat} {p : St × Rat} (h : p ∈ setQ l s q) : p ∈ l ∨ p = (s, q) := by
 induction l with
 | nil => simp [setQ] at h; exact .inr h
 | cons r l ih =>
  unfold setQ at h
  split at h
  ·rcases List.mem_cons.1 h with h | h
   ·exact .inr h
   ·exact .inl (by simp [h])
  ·rcases List.mem_cons.1 h with h | h
   ·exact .inl (by simp [h])
   ·exact (ih h).imp (fun h => by simp [h]) id
theorem o_px {top : Nat} {l : Sp} (h : oklQ top l) (s : St) : 0 ≤ getQ l s := by
 induction l with
 | nil => exact Rat.le_refl
 | cons p l ih =>
  unfold getQ
  split
  ·exact (h p (by simp)).2
  ·exact ih fun q hq => h q (by simp [hq])
theorem o_py {top : Nat} {l : Sp} (h : oklQ top l) {s : St} {q : Rat} (hs : okQ top s) (hq : 0 ≤ q) : oklQ top (addQ l s q) := by
 intro p hp
 rcases o_pw hp with hp | rfl
 ·exact h p hp
 ·refine ⟨hs, ?_⟩
  have := o_px h s
  show 0 ≤ getQ l s + q
  grind
theorem o_pz {top : Nat} {l : Sp} (h : oklQ top l) : oklQ top (atQ l) := fun p hp => h p (List.mem_filter.1 ((o_pg l).mem_iff.1 hp)).1
theorem o_q0 {top : Nat} {q : Rat} (hq : 0 ≤ q) : ∀ {l out : Sp}, oklQ top out → oklQ top l → oklQ top (innQ q out l)
 | [], out, h, _ => h
 | b :: l, out, h, hl => by
  obtain ⟨h1, h2⟩ := hl b (by simp)
  exact o_q0 (out := addQ out b.1 (q * b.2)) (l := l) hq (o_py h h1 (Rat.mul_nonneg hq h2)) fun p hp => hl p (by simp [hp])
theorem o_q1 {top : Nat} {next : St → Sp} (hn : ∀ s, okQ top s → oklQ top (next s)) {l : Sp} (h : oklQ top l) : oklQ top (timesQ next l) := by
 have key : ∀ (k out : Sp), oklQ top out → oklQ top k → oklQ top (k.foldl (fun out a => innQ a.2 out (atQ (next a.1))) out) := by
  intro k
  induction k with
  | nil => intro out h _; exact h
  | cons a k ih =>
   intro out ho hk
   obtain ⟨h1, h2⟩ := hk a (by simp)
   exact ih _ (o_q0 h2 ho (o_pz (hn _ h1))) fun p hp => hk p (by simp [hp])
 exact key _ _ (fun p hp => by cases hp) (o_pz h)
theorem o_q2 {top : Nat} {c : Nat → Rat} (h0 : ∀ k, k < top → 0 ≤ c k) (h1 : ∀ k, k < top → c k ≤ 1) {s : St} (hs : okQ top s) : oklQ top (stepQ top c s) := by
 obtain ⟨a, b, f⟩ := s
 obtain ⟨s1, s2, s3⟩ := hs
 simp only at s1 s2 s3
 unfold stepQ
 split
 ·rename_i e
  intro p hp
  simp at hp; subst hp
  refine ⟨⟨s1, s2, fun _ => e⟩, ?_⟩
  exact (by decide : (0 : Rat) ≤ 1)
 ·rename_i e
  have hlt : a < top := by simp only at e; omega
  have e0 := h0 a hlt
  have e1 := h1 a hlt
  have hf : f = false := by
   cases f with
   | false => rfl
   | true => exact absurd (s3 rfl) (by omega)
  subst hf
  refine o_py (o_py (fun p hp => by cases hp) ⟨by simp only; omega, s2, fun h => by simp at h⟩ e0) ⟨s1, s2, s3⟩ ?_
  show (0 : Rat) ≤ 1 - c a
  grind
theorem o_q3 {top : Nat} {c : Nat → Rat} (h0 : ∀ k, k < top → 0 ≤ c k) (h1 : ∀ k, k < top → c k ≤ 1) {s : St} (hs : okQ top s) : ∀ n, oklQ top (ofQ (stepQ top c) s n)
 | 0 => fun p hp => by
  simp [ofQ] at hp; subst hp
  exact ⟨hs, (by decide : (0 : Rat) ≤ 1)⟩
 | n + 1 => o_q1 (fun s hs => o_q2 h0 h1 hs) (o_q3 h0 h1 hs n)
theorem o_q4 {top : Nat} {c : Nat → Rat} (h0 : ∀ k, k < top → 0 ≤ c k) (h1 : ∀ k, k < top → c k ≤ 1) {s : St} (hs : okQ top s) (n : Nat) (g : St → Rat) (hg : ∀ t, okQ top t → g t ≤ if t.1 = top then g (t.1, t.2.1, true) else c t.1 * g (t.1 + 1, t.2) + (1 - c t.1) * g t) : exQ g (ofQ (stepQ top c) s n) ≤ exQ g (ofQ (stepQ top c) s (n + 1)) := by
 show _ ≤ exQ g (timesQ (stepQ top c) (ofQ (stepQ top c) s n))
 rw [o_pr]
 refine o_pv (top := top) (fun t ht => ?_) (o_q3 h0 h1 hs n)
 rw [(o_pu g top c t).2]
 exact hg t ht
theorem o_q5 {top : Nat} {c : Nat → Rat} (s : St) : ∀ n, exQ (fun _ => 1) (ofQ (stepQ top c) s n) = 1
 | 0 => by simp only [ofQ, exQ]; grind
 | n + 1 => by
  show exQ (fun _ => 1) (timesQ (stepQ top c) (ofQ (stepQ top c) s n)) = 1
  rw [o_pr]
  have : (fun t => exQ (fun _ => (1 : Rat)) (stepQ top c t)) = fun _ => 1 := by
   funext t
   rw [(o_pu (fun _ => 1) top c t).2]
   split
   ·rfl
   ·grind
  rw [this, o_q5 s n]
end
end Go.Proofs.YtafdpoibkmhgcaaGreatDoor.Am
namespace Go.Proofs.YtafdpoibkmhgcaaGreatDoor.Am
section
open Go.RowKit
@[simp] theorem o_q6 (θ : Nat → Nat) (l : List D) : V.rens θ (l.map V.d) = l.map V.d := o_5r θ l
@[simp] theorem o_q7 (n : Nat) (l : List D) : V.lowl n (l.map V.d) = true := o_5s n l
def rcD (q : Rat) : List D := [natW q.num.natAbs, .bool (decide (q.num < 0)), natW (q.den - 1)]
theorem o_q8 (q : Rat) : rD q = .agg (rcD q) := rfl
def zR : List D := [.nilsl, .bool false, .nilsl]
theorem Sub1.agg2 {l r : List D} (h : Subs (l.map V.d) (r.map V.d)) : Sub1 (.d (.agg l)) (.d (.agg r)) := fun m v k => by
 rw [V.rep_d] at k ⊢
 unfold D.rep at k ⊢
 obtain ⟨vs, h1, h2, h3⟩ := k
 exact ⟨vs, h1, h2, V.reps_map_d.1 (h m vs (V.reps_map_d.2 h3))⟩
theorem o_q9 : Sub1 (.d (.agg zR)) (.d (rD 0)) := Sub1.agg2 (Subs.cons Sub1.nil (Subs.cons (Sub1.refl _) (Subs.cons Sub1.nil (Subs.refl _))))
theorem o_qa (s : St) : ∀ l : Sp, Sub1 (.d (lookD rcD zR s l)) (.d (rD (getQ l s)))
 | [] => o_q9
 | p :: r => by
  unfold lookD getQ
  split
  ·exact Sub1.refl _
  ·exact o_qa s r
def spO (l : Sp) : Ob := ⟨1000391, (spD rcD l).map .d⟩
theorem o_qb (l : Sp) (s : St) (x : Rat) (h1 : RS (getQ l s) 100000) (h2 : RS x 100000) : Eqn Tryz.prog o_90 [.mp 0, .d (.agg (stD s)), .d (rD x)] [spO l] (.tup []) [spO (addQ l s x)] := by
 refine Eqn.gen [0] o_92 (by simp) (by simp) (by rfl) (by decide) (by simp) (by simp [spO, o_5s]) ?_
 have ha : Eqn Tryz.prog o_73 [.d (lookD rcD zR s l), .d (rD x)] [] (.d (rD (getQ l s + x))) [] := (o_lk _ _ h1 h2).sub (Subs.cons (o_qa s l) (Subs.refl _))
 have hl := o_p4 rcD (fun _ => rfl) s l zR
 have hm := o_p5 rcD (fun _ => rfl) s l (getQ l s + x)
 have hn := o_oz rcD (fun _ => rfl) l
 simp only [o_91, spO, o_q8, stD, zR, addQ, rcD] at ha hl hm hn ⊢
 generalize spD (fun q => _) l = L at *
 generalize spD (fun q => _) (setQ l s (getQ l s + x)) = L2 at *
 refine A10 (fs hl (fs hm hn)) ?_; try with_reducible exact tt
 refine CallS.pu (ha) (R1 (fs hl (fs hm hn)) ?_); try with_reducible exact tt
end
end Go.Proofs.YtafdpoibkmhgcaaGreatDoor.Am
namespace Go.Proofs.YtafdpoibkmhgcaaGreatDoor.Am
section
open Go.RowKit
theorem o_qc : RS (1 : Rat) 1 := by
 have := RS.mk' (z := 1) (d := 1) (N := 1) (by decide) (by decide) (by decide)
 exact this
theorem rof1 : Eqn Tryz.prog o_70 [.d (.int .i64 1)] [] (.d (rD 1)) [] := by
 have := o_md 1 (by omega)
 simpa using this
theorem rof0 : Eqn Tryz.prog o_70 [.d (.int .i64 0)] [] (.d (rD 0)) [] := by
 have := o_md 0 (by omega)
 simpa using this
theorem o_qd (x : Rat) (s o : St) (hx : RS x 1000) (hso : s ≠ o) : Eqn Tryz.prog o_a0 [.d (rD x), .d (.agg (stD s)), .d (.agg (stD o))] [] (.mp 0) [spO (eitQ x s o)] := by
 refine Eqn.gen [3] o_a2 (by simp) (by simp) (by rfl) (by decide) (by simp) (by simp [spO]) ?_
 have h1 : RS (1 - x) 2000 := (o_qc.sub hx).le (by omega)
 have a1 := o_qb [] s x (by simp only [getQ]; exact ⟨by decide, by decide⟩) (hx.le (by omega))
 have a2 := o_qb (addQ [] s x) o (1 - x) (by rw [addQ, o_p1, if_neg (fun h => hso h.symm)]; show RS (0 : Rat) 100000; exact ⟨by decide, by decide⟩) (h1.le (by omega))
 have hs := o_ll 1 x (o_qc.le (by omega)) (hx.le (by omega))
 have ho := rof1
 simp only [o_a1, spO, o_q8, stD, eitQ, spD, List.flatMap_nil, List.map_nil] at a1 a2 hs ho ⊢
 generalize (addQ [] s x).flatMap _ = L1 at *
 generalize (addQ (addQ [] s x) o (1 - x)).flatMap _ = L2 at *
 generalize rcD (1 - x) = R1 at *
 simp only [rcD] at a1 hs ho ⊢
 refine A00 ?_; try with_reducible exact tt
 refine CallS.g [3] (a1) (R0 ?_); try with_reducible exact tt
 refine CallS.pu (ho) (R0 ?_); try with_reducible exact tt
 refine CallS.pu (hs) (R0 ?_); try with_reducible exact tt
 refine CallS.g [3] (a2) (R0 ?_); try with_reducible exact tt
 done
@[simp] theorem o_qe (ks : List Nat) (vw : Nat) (kl dv : List D) : mset ks vw kl dv [] = some (kl ++ dv) := by simp [mset, mfind]
theorem o_qf (s : St) : Eqn Tryz.prog o_7u [.d (.agg (stD s))] [] (.mp 0) [spO [(s, 1)]] := by
 refine Eqn.gen [1] o_7w (by simp) (by simp) (by rfl) (by decide) (by simp) (by simp [spO]) ?_
 have ho := rof1
 simp only [o_7v, spO, o_q8, stD, rcD, spD, List.flatMap_cons, List.flatMap_nil] at ho ⊢
 simp
 refine A00 ?_; try with_reducible exact tt
 refine CallS.pu (ho) (R0 ?_); try with_reducible exact tt

def chP (k a x : Nat) : Rat := if k = 1 then chM a x else mkRat 1 (2 ^ expOf k a x)
theorem o_qg (e : Nat) : halfD e = rD (mkRat 1 (2 ^ e)) := by
 obtain ⟨h1, h2, h3⟩ := o_l1 1 (2 ^ e) (Nat.two_pow_pos e)
 have hg : Nat.gcd (1 : Int).natAbs (2 ^ e) = 1 := by simp
 rw [hg] at h1 h2
 unfold halfD rD
 rw [h1, h2, show decide ((mkRat 1 (2 ^ e)).num < 0) = false by rw [decide_eq_false_iff_not, h3]; decide]
 simp
theorem o_qh : MethOK Tryz.prog 252 "tallymark/chain.chance" o_e0 := fun v w => by kernel_rfl
theorem o_qi (a k : Nat) (h1 : 1 ≤ a) (h2 : a ≤ 4096) (hk : k ≤ 1023) (hb : bitsN (a + 1) * k ≤ 8192) : Eqn Tryz.prog o_e0 [.d (.int .i64 a), .d (.int .i64 k)] [] (.tup [.d (rD (chM a k)), .d (.int .i64 0)]) [] := by
 refine Eqn.pure o_e2 (o_hj _ _) ?_
 have h := (o_o3 a k h1 h2 hk hb).1
 rw [o_q8] at h ⊢
 simp only [o_e1, rcD] at h ⊢
 refine G0 ?_; try with_reducible exact tt
 refine CallS.pu (h) (R0 ?_); try with_reducible exact tt
theorem o_qj {k a w x : Nat} (h : GoodS k a w) (hx : x ≤ 15) : ∃ ti d g, MethOK Tryz.prog ti "tallymark/chain.chance" g ∧ kindD k a = .ifc ti d ∧ Eqn Tryz.prog g [.d d, .d (.int .i64 x)] [] (.tup [.d (rD (chP k a x)), .d (.int .i64 0)]) [] := by
 by_cases hk : k = 1
 ·subst hk
  have ha : 1 ≤ a ∧ a ≤ 4 := by
   rcases h.1 with ⟨-, h1, h2⟩ | ⟨h1, -⟩ | ⟨h1, -⟩
   ·exact ⟨h1, h2⟩
   ·omega
   ·omega
  refine ⟨_, _, _, o_qh, rfl, ?_⟩
  rw [chP, if_pos rfl]
  have hb : bitsN (a + 1) ≤ 3 := o_i6 (by omega)
  exact o_qi a x ha.1 (by omega) (by omega) (Nat.le_trans (Nat.mul_le_mul hb hx) (by omega))
 ·obtain ⟨ti, d, g, h1, h2, h3⟩ := o_nz h hk hx
  rw [o_qg] at h3
  exact ⟨ti, d, g, h1, h2, by rw [chP, if_neg hk]; exact h3⟩
theorem o_qk {k a w x : Nat} (h : GoodS k a w) (hx : x < 2 ^ w - 1) : Eqn Tryz.prog o_a6 [.d (parD k a w), .d (.int .i64 x)] [] (.tup [.d (rD (chP k a x)), .d (.int .i64 0)]) [] := by
 refine Eqn.pure o_a8 (o_hj _ _) ?_
 have h2 : 2 ^ w - 1 ≤ 15 := by have := Nat.pow_le_pow_right (n := 2) (by omega) h.2.2; omega
 have w2 : w ≤ 10 := by have := h.2.2; omega
 have hc := o_no h
 have hat := o_nn k a w w2 x (by omega) (by omega) hc
 have ht := o_nm k a w w2 hc
 have hkd := o_mn k a w
 obtain ⟨ti, d, g, hm, hd, hg⟩ := o_qj (x := x) h (by omega)
 rw [hd] at hkd
 rw [o_q8] at hg ⊢
 simp only [o_a7, parD, rcD] at hat ht hg ⊢
 generalize 2 ^ w - 1 = W at *
 have g1 : ¬ x = W := by omega
 have g2 : ¬ (x : Int) = W := by omega
 refine G1 (fs g1 g2) ?_; try with_reducible exact tt
 refine CallS.pf 2 1 ⟨3, _⟩ [.int .i64 x] (hat) (by first | rfl | (simp [g1, g2]; done)) (R1 (fs g1 g2) ?_); try with_reducible exact tt
 refine CallS.pu (ht) (R1 (fs g1 g2) ?_); try with_reducible exact tt
 refine AW.cond rfl (fun h => ?_) (fun h => ?_)
 ·simp [g2] at h
 refine G0 ?_; try with_reducible exact tt
 refine CallS.pu (hkd) (R0 ?_); try with_reducible exact tt
 refine ⟨_, hm, ?_⟩
 refine CallS.pu (hg) (R0 ?_); try with_reducible exact tt
theorem o_ql {k a w : Nat} (h : GoodS k a w) : Eqn Tryz.prog o_a6 [.d (parD k a w), .d (.int .i64 (2 ^ w - 1 : Nat))] [] (.tup [.d (.agg zR), .d (.int .i64 0)]) [] := by
 refine Eqn.pure o_a8 (o_hj _ _) ?_
 have h2 : 2 ^ w - 1 ≤ 15 := by have := Nat.pow_le_pow_right (n := 2) (by omega) h.2.2; omega
 have w2 : w ≤ 10 := by have := h.2.2; omega
 have hc := o_no h
 have hat := o_nn k a w w2 ((2 ^ w - 1 : Nat) : Int) (by omega) (Int.le_refl _) hc
 have ht := o_nm k a w w2 hc
 simp only [o_a7, parD, zR] at hat ht ⊢
 generalize 2 ^ w - 1 = W at *
 refine G0 ?_; try with_reducible exact tt
 refine CallS.pf 2 1 ⟨3, _⟩ [.int .i64 W] (hat) (by first | rfl | (simp; done)) (R0 ?_); try with_reducible exact tt
 refine CallS.pu (ht) (R0 ?_); try with_reducible exact tt
 refine A00 ?_; try with_reducible exact tt
theorem o_qm (k a b : Int) : Eqn Tryz.prog o_a3 [.d (parD k a b)] [] (.d (parD k a b)) [] := by
 refine Eqn.pure o_a5 Plain.ok ?_
 simp only [o_a4, parD]
 refine A00 ?_; try with_reducible exact tt
end
end Go.Proofs.YtafdpoibkmhgcaaGreatDoor.Am
namespace Go.Proofs.YtafdpoibkmhgcaaGreatDoor.Am
section
open Go.RowKit
theorem o_qn (x : Int) : Eqn Tryz.prog o_dc [.d (.int .i64 x)] [] (.d (.bool false)) [] := by
 refine Eqn.pure o_de Plain.ok ?_
 simp only [o_dd]
 refine A00 ?_; try with_reducible exact tt
def cmpG (x y : Int) : Int := if x < y then -1 else if y < x then 1 else 0
theorem o_qo (x y : Int) : Eqn Tryz.prog o_cl [.d (.int .i64 x), .d (.int .i64 y)] [] (.d (.int .i64 (cmpG x y))) [] := by
 refine Eqn.pure o_cn Plain.ok ?_
 simp only [o_cm]
 have h1 := o_qn x
 have h2 := o_qn y
 unfold cmpG
 by_cases g1 : x < y
 ·rw [if_pos g1]
  refine A12 g1 h1 h2 ?_; try with_reducible exact tt
 ·rw [if_neg g1]
  by_cases g2 : y < x
  ·rw [if_pos g2]
   refine A12 (fs g1 g2) h1 h2 ?_; try with_reducible exact tt
  ·rw [if_neg g2]
   refine A12 (fs g1 g2) h1 h2 ?_; try with_reducible exact tt
theorem o_qp (f : Bool) : Eqn Tryz.prog o_co [.d (.bool f)] [] (.d (.int .i64 ((if f then 1 else 0)))) [] := by
 refine Eqn.pure o_cq Plain.ok ?_
 simp only [o_cp]
 cases f
 ·refine A00 ?_; try with_reducible exact tt
 ·refine A00 ?_; try with_reducible exact tt
def orG (a b c : Int) : Int := if a ≠ 0 then a else if b ≠ 0 then b else c
theorem o_qq (a b c : Int) : Eqn Tryz.prog o_ci [.d (.sl 3 [.int .i64 a, .int .i64 b, .int .i64 c])] [] (.d (.int .i64 (orG a b c))) [] := by
 refine Eqn.pure o_ck Plain.ok ?_
 simp only [o_cj]
 unfold orG
 by_cases ha : a = 0
 ·subst ha
  by_cases hb : b = 0
  ·subst hb
   by_cases hc : c = 0
   ·subst hc
    refine A00 ?_; try with_reducible exact tt
    refine AW.rounds 4 ?_
    refine A00 ?_; try with_reducible exact tt
   ·refine A00 ?_; try with_reducible exact tt
    refine AW.rounds 4 ?_
    refine A10 hc ?_; try with_reducible exact tt
  ·refine A00 ?_; try with_reducible exact tt
   refine AW.rounds 4 ?_
   refine A10 hb ?_; try with_reducible exact tt
 ·refine A00 ?_; try with_reducible exact tt
  refine AW.rounds 4 ?_
  refine A10 ha ?_; try with_reducible exact tt
end
end Go.Proofs.YtafdpoibkmhgcaaGreatDoor.Am
namespace Go.Proofs.YtafdpoibkmhgcaaGreatDoor.Am
section
open Go.RowKit
def ordI (p q : St × Rat) : Int := orG (cmpG p.1.1 q.1.1) (cmpG p.1.2.1 q.1.2.1) (cmpG (if p.1.2.2 then 1 else 0) (if q.1.2.2 then 1 else 0))
theorem o_qr (p q : St × Rat) : ordI p q < 0 ↔ ltS p.1 q.1 = true := by
 obtain ⟨⟨a, b, c⟩, x⟩ := p; obtain ⟨⟨a', b', c'⟩, x'⟩ := q
 unfold ordI orG cmpG ltS
 simp only [Bool.or_eq_true, Bool.and_eq_true, decide_eq_true_eq, Bool.not_eq_true']
 cases c <;> cases c' <;> simp <;> (repeat' split) <;> omega
theorem o_qs (p q : St × Rat) (x y z x' y' z' : D) : Eqn Tryz.prog o_af [.d (.agg [.int .i64 p.1.1, .int .i64 p.1.2.1, .bool p.1.2.2, x, y, z]), .d (.agg [.int .i64 q.1.1, .int .i64 q.1.2.1, .bool q.1.2.2, x', y', z'])] [] (.d (.int .i64 (ordI p q))) [] := by
 refine Eqn.pure o_ah Plain.ok ?_
 simp only [o_ag]
 have t1 := o_qp p.1.2.2
 have t2 := o_qp q.1.2.2
 have c1 := o_qo p.1.1 q.1.1
 have c2 := o_qo p.1.2.1 q.1.2.1
 have c3 := o_qo (if p.1.2.2 then 1 else 0) (if q.1.2.2 then 1 else 0)
 have ho := o_qq (cmpG p.1.1 q.1.1) (cmpG p.1.2.1 q.1.2.1) (cmpG (if p.1.2.2 then 1 else 0) (if q.1.2.2 then 1 else 0))
 unfold ordI
 generalize cmpG (if p.1.2.2 then 1 else 0) (if q.1.2.2 then 1 else 0) = C3 at *
 generalize cmpG p.1.1 q.1.1 = C1 at *
 generalize cmpG p.1.2.1 q.1.2.1 = C2 at *
 generalize (if p.1.2.2 then (1 : Int) else 0) = T1 at *
 generalize (if q.1.2.2 then (1 : Int) else 0) = T2 at *
 generalize p.1.2.2 = F1 at *
 generalize q.1.2.2 = F2 at *
 refine A06B c1 c2 t1 t2 c3 c3 ?_; try with_reducible exact tt
 refine CallS.pf 4 1 ⟨3, [.d (.int .i64 C1), .d (.int .i64 C2), .d (.int .i64 C3)]⟩ [.int .i64 C1, .int .i64 C2, .int .i64 C3] (ho) (by first | rfl | (simp [-Bool.exists_bool]; done)) (R0B ?_); try with_reducible exact tt

section
variable {aC : St × Rat → List D}
def rowA (aC : St × Rat → List D) (l : Sp) : List V := (l.flatMap aC).map .d
theorem o_qt (h6 : ∀ p, (aC p).length = 6) (l : Sp) : (rowA aC l).length = l.length * 6 := by
 rw [rowA, List.length_map, o_mf h6]
@[simp] theorem o_qu (n : Nat) (l : Sp) : V.lowl n (rowA aC l) = true := o_5s _ _
@[simp] theorem o_qv (θ : Nat → Nat) (l : Sp) : V.rens θ (rowA aC l) = rowA aC l := o_5r _ _
theorem o_qw (h6 : ∀ p, (aC p).length = 6) (l : Sp) (i : Nat) (h : i < l.length) : ((rowA aC l).drop (i * 6)).take 6 = (aC l[i]).map .d := by
 rw [rowA, ← List.map_drop, ← List.map_take, o_mh h6 l i h]
theorem o_qx (l k : Sp) : rowA aC (l ++ k) = rowA aC l ++ rowA aC k := by simp [rowA]
theorem o_qy (h6 : ∀ p, (aC p).length = 6) (l k : Sp) (p q : St × Rat) : setMany (rowA aC (l ++ p :: k)) (l.length * 6) ((aC q).map .d) = rowA aC (l ++ q :: k) := by
 have h1 := o_qt h6 (l ++ p :: k)
 rw [o_l _ _ _ (by rw [h1]; simp [h6]; omega)]
 have e1 : rowA aC (l ++ p :: k) = rowA aC l ++ ((aC p).map .d ++ rowA aC k) := by simp [rowA]
 have e2 : rowA aC (l ++ q :: k) = rowA aC l ++ ((aC q).map .d ++ rowA aC k) := by simp [rowA]
 have hl := o_qt h6 l
 rw [e1, e2, ← hl, List.take_left]
 have e3 : (rowA aC l).length + ((aC q).map V.d).length = (rowA aC l ++ (aC p).map V.d).length := by simp [h6]
 rw [e3, ← List.append_assoc, List.drop_left]
 simp
theorem o_qz (h6 : ∀ p, (aC p).length = 6) (l k : Sp) (p : St × Rat) : ((rowA aC (l ++ p :: k)).drop (l.length * 6)).take 6 = (aC p).map .d := by
 have := o_qw h6 (l ++ p :: k) l.length (by simp)
 simpa using this

def SortTo (L K : Sp) : Prop := ∀ K' : Sp, K'.Perm L → K'.Pairwise (fun a b => ltS a.1 b.1 = true) → K' = K
set_option maxHeartbeats 2000000 in
theorem o_r0 (h6 : ∀ p, (aC p).length = 6) (hord : ∀ p q, Eqn Tryz.prog o_af [.d (.agg (aC p)), .d (.agg (aC q))] [] (.d (.int .i64 (ordI p q))) []) (L K : Sp) (hu : Uq L) (h0 : 1 ≤ L.length) (hn : L.length ≤ 1000000) (hK : SortTo L K) :
  Eqn Tryz.prog o_d6 [.own 0 6 L.length, .d (.int .i64 0), .d (.int .i64 L.length), .fn (.func o_af) []] [⟨69, rowA aC L⟩] (.tup []) [⟨69, rowA aC K⟩] := by
 refine Eqn.gen [0] o_d8 (by simp) (by simp) (by rfl) (by decide) (by simp) (by simp [rowA, o_5s]) ?_
 simp only [o_d7]
 have ew0 : IntKind.i64.wrap 1 = 1 := w64 (by omega) (by omega)
 refine A10 ew0 ?_; try with_reducible exact tt
 refine AW.loopT (α := Nat × Sp) 1 (fun z => [(8, .d (.int .i64 (z.1 : Nat)))]) (fun z => [(0, ⟨69, rowA aC (z.2 ++ L.drop z.1)⟩)]) (fun z => 1 ≤ z.1 ∧ z.1 ≤ L.length ∧ z.2.Perm (L.take z.1) ∧ z.2.Pairwise (fun a b => ltS a.1 b.1 = true)) (fun z => L.length - z.1) (1, L.take 1) ?_ ?_ ⟨Nat.le_refl _, h0, List.Perm.refl _, ?_⟩ ?_ ?_ ?_
 ·simp
 ·simp
 ·match L, h0 with
  | a :: L, _ => simp
 ·simp
 ·simp only [List.take_append_drop]
  simp
 rintro ⟨i, P⟩ ⟨i1, i2, hP, hs⟩
 simp only at i1 i2 hP hs
 simp
 have hPl : P.length = i := by rw [hP.length_eq, List.length_take]; omega
 by_cases hi : i < L.length
 ·have hi' : (i : Int) < L.length := by omega
  obtain ⟨x, C, hC⟩ : ∃ x C, L.drop i = x :: C := ⟨L[i], L.drop (i + 1), List.drop_eq_getElem_cons hi⟩
  have hC2 : L.drop (i + 1) = C := by
   rw [List.drop_eq_getElem_cons hi] at hC
   exact (List.cons.inj hC).2
  have hx : L.take (i + 1) = L.take i ++ [x] := by
   rw [List.drop_eq_getElem_cons hi] at hC
   rw [List.take_add_one, List.getElem?_eq_getElem hi, (List.cons.inj hC).1]; rfl
  have hCl : i + 1 + C.length = L.length := by rw [← hC2, List.length_drop]; omega
  rw [hC]
  have hxP : ∀ y ∈ P, y.1 ≠ x.1 := by
   intro y hy e
   have h1 : y ∈ L.take i := hP.mem_iff.1 hy
   have h2 : Uq (L.take (i + 1)) := by
    unfold Uq at hu ⊢
    exact List.Sublist.nodup ((List.take_sublist _ _).map _) hu
   rw [hx] at h2
   unfold Uq at h2
   rw [List.map_append, List.nodup_append] at h2
   exact h2.2.2 y.1 (List.mem_map.2 ⟨y, h1, rfl⟩) x.1 (by simp) e
  have ewi : IntKind.i64.wrap ((i : Int) + 1) = ((i + 1 : Nat) : Int) := by rw [w64 (by omega) (by omega)]; omega
  refine A10 (fs hi hi') ?_; try with_reducible exact tt
  refine AW.loopT (α := Sp × Sp) 1 (fun z => [(9, .d (.int .i64 (z.1.length : Nat)))]) (fun z => [(0, ⟨69, rowA aC (z.1 ++ x :: (z.2 ++ C))⟩)]) (fun z => z.1 ++ z.2 = P ∧ ∀ y ∈ z.2, ltS x.1 y.1 = true) (fun z => z.1.length) (P, []) ?_ ?_ ⟨by simp, by simp⟩ ?_ ?_ ?_
  ·simp
  ·simp
  ·simp [hPl]
  ·simp
  rintro ⟨A, B⟩ ⟨hAB, hB⟩
  simp only at hAB hB
  simp
  have fin : (A = [] ∨ ∃ A' y, A = A' ++ [y] ∧ ¬ ltS x.1 y.1 = true) → (A ++ x :: B).Perm (L.take (i + 1)) ∧ (A ++ x :: B).Pairwise (fun a b => ltS a.1 b.1 = true) := by
   intro hA
   refine ⟨?_, ?_⟩
   ·rw [hx]
    have h1 : (A ++ x :: B).Perm (x :: (A ++ B)) := List.perm_middle
    rw [hAB] at h1
    refine h1.trans ?_
    exact (List.Perm.cons x hP).trans (List.perm_append_singleton x _).symm
   ·rw [← hAB, List.pairwise_append] at hs
    obtain ⟨s1, s2, s3⟩ := hs
    rw [List.pairwise_append]
    have hAx : ∀ a ∈ A, ltS a.1 x.1 = true := by
     rcases hA with rfl | ⟨A', y, rfl, hy⟩
     ·intro a ha; cases ha
     ·intro a ha
      have hyx : ltS y.1 x.1 = true := by
       rcases o_pd y.1 x.1 with h | h | h
       ·exact h
       ·exact absurd h (hxP y (by rw [← hAB]; simp))
       ·exact absurd h hy
      rcases List.mem_append.1 ha with ha | ha
      ·rw [List.pairwise_append] at s1
       exact o_pc (s1.2.2 a ha y (by simp)) hyx
      ·simp at ha; subst ha; exact hyx
    refine ⟨s1, List.pairwise_cons.2 ⟨hB, s2⟩, fun a ha b hb => ?_⟩
    rcases List.mem_cons.1 hb with rfl | hb
    ·exact hAx a ha
    ·exact s3 a ha b hb
  rcases List.eq_nil_or_concat A with rfl | ⟨A', y, hA⟩
  ·refine A00 ?_; try with_reducible exact tt
   refine A10 ewi ?_; try with_reducible exact tt
   have hf := fin (.inl rfl)
   refine ⟨i + 1, [] ++ x :: B, ⟨by omega, by omega, hf.1, hf.2⟩, by omega, ?_, ?_⟩
   ·simp
   ·simp [hC2]
  ·rw [List.concat_eq_append] at hA
   subst hA
   have e1 : A' ++ [y] ++ x :: (B ++ C) = A' ++ y :: (x :: (B ++ C)) := by simp
   have hg1 := o_qz h6 (A' ++ [y]) (B ++ C) x
   have hg2 := o_qz h6 A' (x :: (B ++ C)) y
   have hs1 := o_qy h6 (A' ++ [y]) (B ++ C) x y
   have hs2 := o_qy h6 A' (y :: (B ++ C)) y x
   have e2 : A' ++ [y] ++ y :: (B ++ C) = A' ++ y :: (y :: (B ++ C)) := by simp
   have hRl := o_qt h6 (A' ++ y :: (x :: (B ++ C)))
   have hRl2 := o_qt h6 (A' ++ y :: (y :: (B ++ C)))
   have hln : (A' ++ y :: (x :: (B ++ C))).length = L.length := by
    have := congrArg List.length hAB
    simp at this ⊢
    omega
   have hln2 : (A' ++ y :: (y :: (B ++ C))).length = L.length := by rw [← hln]; simp
   rw [hln] at hRl
   rw [hln2] at hRl2
   rw [e1] at hg1 hs1
   rw [e2] at hs1
   obtain ⟨m, hm⟩ : ∃ m, m = (A' ++ [y]).length := ⟨_, rfl⟩
   rw [← hm] at hg1 hs1
   have hm1 : m = A'.length + 1 := by rw [hm]; simp
   obtain ⟨m1, hm1'⟩ : ∃ m1, m1 = A'.length := ⟨_, rfl⟩
   rw [← hm1'] at hg2 hs2 hm1
   have hmn : m < L.length := by rw [← hln]; simp; omega
   have ewm : IntKind.i64.wrap ((m : Int) - 1) = (m1 : Int) := by rw [w64 (by omega) (by omega)]; omega
   have q1 : (0 : Int) < (m : Int) := by omega
   have q2 : (m : Int) < L.length := by omega
   have q3 : (m1 : Int) < L.length := by omega
   have q4 : 0 < m := by omega
   have b1 : m * 6 + 6 ≤ L.length * 6 := by omega
   have b2 : m1 * 6 + 6 ≤ L.length * 6 := by omega
   have hoo := hord x y
   have hc1 : ((aC x).map V.d).length = 6 := by simp [h6]
   have hc2 : ((aC y).map V.d).length = 6 := by simp [h6]
   have hgl : A'.length + 1 = m := by omega
   have hgl' : ((A'.length : Int) + 1) = (m : Int) := by omega
   simp only [List.append_assoc, List.singleton_append, List.cons_append, List.nil_append, List.length_append, List.length_cons, List.length_nil, Nat.zero_add, hgl, hgl'] at *
   by_cases hlt : ltS x.1 y.1 = true
   ·have ho1 : ordI x y < 0 := (o_qr x y).2 hlt
    generalize rowA aC (A' ++ y :: x :: (B ++ C)) = R at *
    generalize rowA aC (A' ++ y :: y :: (B ++ C)) = R1 at *
    refine A11 (fs q1 (fs q2 (fs q3 (fs q4 (fs ewm (fs hg1 (fs hg2 (fs hRl (fs hRl2 (fs b1 (fs b2 (fs ho1 (fs hc1 (fs hc2 (fs hs1 (fs hs2 h6)))))))))))))))) hoo ?_; try with_reducible exact tt
    refine ⟨A', y :: B, ⟨hAB, ?_⟩, by omega, ?_, ?_⟩
    ·have hB' : ∀ z ∈ y :: B, ltS x.1 z.1 = true := by
      intro z hz
      rcases List.mem_cons.1 hz with hz | hz
      ·rw [hz]; exact hlt
      ·exact hB z hz
     first
      | exact hB'
      | exact fun z hz => ⟨fun b hb => hB' _ hb, fun b hb => hB' _ hb⟩
    ·simp [hm1']
    ·simp
   ·have ho1 : ¬ ordI x y < 0 := fun h => hlt ((o_qr x y).1 h)
    have hf := fin (.inr ⟨A', y, rfl, hlt⟩)
    have hcc : A' ++ y :: x :: (B ++ C) = (A' ++ y :: (x :: B)) ++ C := by simp
    generalize hR : rowA aC (A' ++ y :: x :: (B ++ C)) = R at *
    refine A11 (fs q1 (fs q2 (fs q3 (fs q4 (fs ewm (fs hg1 (fs hg2 (fs hRl (fs hRl2 (fs b1 (fs b2 ho1))))))))))) hoo ?_; try with_reducible exact tt
    refine A10 ewi ?_; try with_reducible exact tt
    refine ⟨i + 1, A' ++ y :: (x :: B), ⟨by omega, by omega, ?_, ?_⟩, by omega, ?_, ?_⟩
    ·simpa using hf.1
    ·simpa using hf.2
    ·simp
    ·simp [hC2, ← hR]
 ·have h2 : i = L.length := by omega
  subst h2
  have : P = K := hK P (by rw [List.take_length] at hP; exact hP) hs
  subst this
  rw [List.drop_length, List.append_nil]
  refine A00 ?_; try with_reducible exact tt
end
end
end Go.Proofs.YtafdpoibkmhgcaaGreatDoor.Am
namespace Go.Proofs.YtafdpoibkmhgcaaGreatDoor.Am
section
open Go.RowKit
def ChOk (k a w : Nat) : Prop := GoodS k a w
def topC (w : Nat) : Nat := 2 ^ w - 1
def onQ (w : Nat) (s : St) (x : Rat) : Sp := if s.1 = topC w then [((s.1, s.2.1, true), 1)] else eitQ x (s.1 + 1, s.2) s
theorem o_r1 {k a w : Nat} (h : GoodS k a w) (s : St) (hs : s.1 ≤ topC w) (x : Rat) (hx : RS x 1000) (X : D) (hX : Sub1 (.d X) (.d (rD x))) (hX2 : ∃ x0 x1 x2, X = .agg [x0, x1, x2]) :
  Eqn Tryz.prog o_a9 [.d (parD k a w), .d (.agg (stD s)), .d X] [] (.mp 0) [spO (onQ w s x)] := by
 have h15 : topC w ≤ 15 := by have := Nat.pow_le_pow_right (n := 2) (by omega) h.2.2; unfold topC; omega
 have w2 : w ≤ 10 := by have := h.2.2; omega
 have hc := o_no h
 have ht := o_nm k a w w2 hc
 have hl := o_qm k a w
 rw [show 2 ^ w - 1 = topC w from rfl] at ht
 obtain ⟨x0, x1, x2, rfl⟩ := hX2
 obtain ⟨s1, s2, s3⟩ := s
 simp only at hs
 unfold onQ
 generalize topC w = W at *
 by_cases e : s1 = W
 ·subst e
  rw [if_pos rfl]
  refine Eqn.gen [3] o_ab (by simp) (by simp) (by rfl) (by decide) (by simp) (by simp [spO]) ?_
  have hsu := o_qf (s1, s2, true)
  simp only [o_aa, spO, stD, parD] at ht hl hsu ⊢
  generalize spD rcD [((s1, s2, true), 1)] = L at *
  refine A00 ?_; try with_reducible exact tt
  refine CallS.pu (hl) (R0 ?_); try with_reducible exact tt
  refine CallS.pu (ht) (R0 ?_); try with_reducible exact tt
  refine A00 ?_; try with_reducible exact tt
  refine CallS.nX (hsu) (R0 ?_); try with_reducible exact tt
 ·rw [if_neg e]
  have hei := o_qd x (s1 + 1, s2, s3) (s1, s2, s3) hx (by simp)
  replace hei := hei.sub (Subs.cons hX (Subs.refl _))
  have e1 : ¬ (s1 : Int) = (W : Int) := by omega
  have ew : IntKind.i64.wrap ((s1 : Int) + 1) = ((s1 + 1 : Nat) : Int) := by rw [w64 (by omega) (by omega)]; omega
  refine Eqn.gen [4] o_ab (by simp) (by simp) (by rfl) (by decide) (by simp) (by simp [spO]) ?_
  simp only [o_aa, spO, stD, parD] at ht hl hei ⊢
  generalize spD rcD _ = L at *
  refine A00 ?_; try with_reducible exact tt
  refine CallS.pu (hl) (R0 ?_); try with_reducible exact tt
  refine CallS.pu (ht) (R1 (fs e e1) ?_); try with_reducible exact tt
  refine A10 (fs e (fs e1 ew)) ?_; try with_reducible exact tt
  refine CallS.nX (hei) (R1 ew ?_); try with_reducible exact tt
end
end Go.Proofs.YtafdpoibkmhgcaaGreatDoor.Am
namespace Go.Proofs.YtafdpoibkmhgcaaGreatDoor.Am
section
open Go.RowKit
theorem o_r2 {k a w x : Nat} (h : GoodS k a w) (hx : x ≤ 15) : RS (chP k a x) 1000 := by
 unfold chP
 by_cases hk : k = 1
 ·subst hk
  rw [if_pos rfl]
  have ha : 1 ≤ a ∧ a ≤ 4 := by
   rcases h.1 with ⟨-, h1, h2⟩ | ⟨h1, -⟩ | ⟨h1, -⟩
   ·exact ⟨h1, h2⟩
   ·omega
   ·omega
  have hb : bitsN (a + 1) ≤ 3 := o_i6 (by omega)
  exact (o_o3 a x ha.1 (by omega) (by omega) (Nat.le_trans (Nat.mul_le_mul hb hx) (by omega))).2.le (by omega)
 ·rw [if_neg hk]
  have he := o_ny h hk hx
  exact RS.mk' (Nat.two_pow_pos _) (by show size 1 ≤ 1000; exact Nat.le_trans (by decide : size 1 ≤ 1) (by omega)) (Nat.le_trans (o_o0 he) (by omega))
theorem o_r3 {k a w : Nat} (h : GoodS k a w) (s : St) (hs : s.1 ≤ topC w) : Eqn Tryz.prog o_83 [.d (parD k a w), .d (.agg (stD s))] [] (.mp 0) [spO (stepQ (topC w) (chP k a) s)] := by
 have h15 : topC w ≤ 15 := by have := Nat.pow_le_pow_right (n := 2) (by omega) h.2.2; unfold topC; omega
 have hk4 : ¬ (k : Int) = 4 := by have := h.1; omega
 have hk4' : ¬ k = 4 := by have := h.1; omega
 have hl := o_qm k a w
 have hrs := o_r2 h (x := s.1) (by omega)
 have hst : stepQ (topC w) (chP k a) s = onQ w s (chP k a s.1) := rfl
 rw [hst]
 have key : ∃ x0 x1 x2 : D, Sub1 (.d (.agg [x0, x1, x2])) (.d (rD (if s.1 = topC w then 0 else chP k a s.1))) ∧ Eqn Tryz.prog o_a6 [.d (parD k a w), .d (.int .i64 s.1)] [] (.tup [.d (.agg [x0, x1, x2]), .d (.int .i64 0)]) [] := by
  by_cases e : s.1 = topC w
  ·refine ⟨_, _, _, by rw [if_pos e]; exact o_q9, ?_⟩
   have := o_ql h
   rw [show 2 ^ w - 1 = s.1 from e.symm] at this
   exact this
  ·refine ⟨_, _, _, by rw [if_neg e]; exact Sub1.refl _, o_qk h (by unfold topC at *; omega)⟩
 obtain ⟨x0, x1, x2, hX, hch⟩ := key
 have hon : Eqn Tryz.prog o_a9 [.d (parD k a w), .d (.agg (stD s)), .d (.agg [x0, x1, x2])] [] (.mp 0) [spO (onQ w s (chP k a s.1))] := by
  by_cases e : s.1 = topC w
  ·rw [if_pos e] at hX
   have := o_r1 h s hs 0 (show RS (0 : Rat) 1000 from ⟨by decide, by decide⟩) _ hX ⟨_, _, _, rfl⟩
   have e2 : onQ w s 0 = onQ w s (chP k a s.1) := by unfold onQ; rw [if_pos e, if_pos e]
   rw [e2] at this
   exact this
  ·rw [if_neg e] at hX
   exact o_r1 h s hs _ hrs _ hX ⟨_, _, _, rfl⟩
 refine Eqn.gen [3] o_85 (by simp) (by simp) (by rfl) (by decide) (by simp) (by simp [spO]) ?_
 simp only [o_84, spO, stD, parD] at hl hch hon ⊢
 generalize spD rcD _ = L at *
 refine A10 (fs hk4 hk4') ?_; try with_reducible exact tt
 refine CallS.pu (hl) (R0 ?_); try with_reducible exact tt
 refine CallS.pu (hch) (R0 ?_); try with_reducible exact tt
 refine A00 ?_; try with_reducible exact tt
 refine CallS.nX (hon) (R0 ?_); try with_reducible exact tt
theorem o_r4 {k a w : Nat} (h : GoodS k a w) (s : St) (hs : s.1 ≤ topC w) : Eqn Tryz.prog o_80 [.d (.agg (stD s)), .p 0 0] [⟨29, [.d (.int .i64 k), .d (.int .i64 a), .d (.int .i64 w)]⟩] (.mp 1) [⟨29, [.d (.int .i64 k), .d (.int .i64 a), .d (.int .i64 w)]⟩, spO (stepQ (topC w) (chP k a) s)] := by
 refine Eqn.gen [0, 2] o_82 (by simp) (by simp) (by rfl) (by decide) (by simp) (by simp [spO]) ?_
 have hst := o_r3 h s hs
 simp only [o_81, spO, stD, parD] at hst ⊢
 generalize spD rcD _ = L at *
 refine A00 ?_; try with_reducible exact tt
 refine CallS.nX (hst) (R0 ?_); try with_reducible exact tt
end
end Go.Proofs.YtafdpoibkmhgcaaGreatDoor.Am
namespace Go.Proofs.YtafdpoibkmhgcaaGreatDoor.Am
section
open Go.RowKit
def atomC (p : St × Rat) : List D := stD p.1 ++ rcD p.2
theorem o_r5 (p : St × Rat) : (atomC p).length = 6 := rfl
theorem o_r6 (l : Sp) : spD rcD l = l.flatMap atomC := rfl
theorem o_r7 (p q : St × Rat) : Eqn Tryz.prog o_af [.d (.agg (atomC p)), .d (.agg (atomC q))] [] (.d (.int .i64 (ordI p q))) [] := o_qs p q _ _ _ _ _ _
theorem o_r8 (L : Sp) (hu : Uq L) (h0 : 1 ≤ L.length) (h12 : L.length ≤ 12) (K : Sp) (hK : SortTo L K) :
  Eqn Tryz.prog o_ac [.own 0 6 L.length, .fn (.func o_af) []] [⟨69, rowA atomC L⟩] (.tup []) [⟨69, rowA atomC K⟩] := by
 have hi := o_r0 o_r5 o_r7 L K hu h0 (by omega) hK
 have hp : ∀ t3 : Int, Eqn Tryz.prog o_cc [.own 0 6 L.length, .d (.int .i64 0), .d (.int .i64 L.length), .d (.int .i64 t3), .fn (.func o_af) []] [⟨69, rowA atomC L⟩] (.tup []) [⟨69, rowA atomC K⟩] := by
  intro t3
  refine Eqn.gen [0] o_ce (by simp) (by simp) (by rfl) (by decide) (by simp) (by simp) ?_
  simp only [o_cd]
  have e1 : IntKind.i64.wrap ((L.length : Int) - 0) = L.length := w64 (by omega) (by omega)
  have e1' : IntKind.i64.wrap (L.length : Int) = L.length := w64 (by omega) (by omega)
  have e2 : (L.length : Int) ≤ 12 := by omega
  refine A00 ?_; try with_reducible exact tt
  refine AW.rounds 1 ?_
  refine A10 (fs e1 (fs e1' (fs e2 h12))) ?_; try with_reducible exact tt
  refine CallS.g [0] (hi) (R0 ?_); try with_reducible exact tt
 refine Eqn.gen [0] o_ae (by simp) (by simp) (by rfl) (by decide) (by simp) (by simp) ?_
 simp only [o_ad]
 have hb := o_nh L.length (by omega)
 have e1 : IntKind.u64.wrap (L.length : Int) = L.length := wu64 (by omega) (by omega)
 refine A10 e1 ?_; try with_reducible exact tt
 refine CallS.pu (hb) (R1 e1 ?_); try with_reducible exact tt
 refine CallS.g [0] (hp _) (R0 ?_); try with_reducible exact tt

def seenV (σ : List Nat) : List V := σ.map fun i : Nat => V.d (.int .i64 (i : Int))
@[simp] theorem o_r9 : ∀ σ : List Nat, seenOf (seenV σ) = some σ
 | [] => rfl
 | i :: σ => by
  have := o_r9 σ
  unfold seenV at *
  rw [List.map_cons, seenOf, if_pos (by omega), this]
  simp
@[simp] theorem o_ra (σ : List Nat) (i : Nat) : seenV σ ++ [V.d (.int .i64 (i : Int))] = seenV (σ ++ [i]) := by simp [seenV]
@[simp] theorem o_rb (n : Nat) (σ : List Nat) : V.lowl n (seenV σ) = true := by
 induction σ with
 | nil => rfl
 | cons i σ ih => unfold seenV at *; simp [V.lowl, V.low, ih]
@[simp] theorem o_rc (θ : Nat → Nat) (σ : List Nat) : V.rens θ (seenV σ) = seenV σ := by
 induction σ with
 | nil => rfl
 | cons i σ ih => unfold seenV at *; simp [V.rens, V.ren, ih]
theorem o_rd : seenV [] = [] := rfl
def metQ (l : Sp) (σ : List Nat) : Sp := σ.flatMap fun i => match l[i]? with
 | some p => if p.2 = 0 then [] else [p]
 | none => []
theorem o_re (l : Sp) (σ : List Nat) (i : Nat) (h : i < l.length) : metQ l (σ ++ [i]) = metQ l σ ++ if l[i].2 = 0 then [] else [l[i]] := by
 simp [metQ, List.flatMap_append, List.getElem?_eq_getElem h]
theorem o_rf (l : Sp) (σ : List Nat) (hp : σ.Perm (List.range l.length)) : (metQ l σ).Perm (nzQ l) := by
 have h1 : (metQ l σ).Perm (metQ l (List.range l.length)) := List.Perm.flatMap_right _ hp
 refine h1.trans (List.Perm.of_eq ?_)
 have key : ∀ n, n ≤ l.length → metQ l (List.range n) = nzQ (l.take n) := by
  intro n
  induction n with
  | zero => intro _; rfl
  | succ n ih =>
   intro hn
   rw [List.range_succ, o_re l _ n (by omega), ih (by omega), List.take_add_one, List.getElem?_eq_getElem (by omega)]
   unfold nzQ
   rw [List.filter_append]
   congr 1
   simp only [Option.toList, List.filter_cons, List.filter_nil]
   by_cases h : l[n].2 = 0 <;> simp [h]
 rw [key l.length (Nat.le_refl _), List.take_length]
theorem o_rg (l L : Sp) (hu : Uq l) (hp : L.Perm (nzQ l)) : SortTo L (atQ l) := fun K' h1 h2 => o_pl hu (h1.trans hp) h2
end
end Go.Proofs.YtafdpoibkmhgcaaGreatDoor.Am
namespace Go.Proofs.YtafdpoibkmhgcaaGreatDoor.Am
section
open Go.RowKit
@[simp] theorem o_rh (n s : Nat) (ds l : List D) : V.frzs n s ds (l.map V.d) = l.map V.d := by
 rw [o_4z, List.map_map]
 apply List.map_congr_left
 intro x _
 simp
def slM (l : Sp) (σ : List Nat) : List V := setS (List.replicate 26 .junk) [(0, .mp 0), (3, if (metQ l σ).length = 0 then .d .nilsl else .own 2 6 (metQ l σ).length), (7, .p 1 0)]
def hpM (l : Sp) (σ : List Nat) : List (Option Ob) := [some (spO l), some ⟨1000000, .mp 0 :: .d (.int .i64 (l.length : Nat)) :: seenV σ⟩] ++ if (metQ l σ).length = 0 then [] else [some ⟨69, rowA atomC (metQ l σ)⟩]
theorem o_ri (q : Rat) : (cmpQ q 0 ≠ 0) ↔ q ≠ 0 := by
 unfold cmpQ
 by_cases h1 : q < 0
 ·rw [if_pos h1]; constructor
  ·intro _ h; subst h; exact absurd h1 (by decide)
  ·intro _ h; cases h
 ·rw [if_neg h1]
  by_cases h2 : 0 < q
  ·rw [if_pos h2]; constructor
   ·intro _ h; subst h; exact absurd h2 (by decide)
   ·intro _ h; cases h
  ·rw [if_neg h2]; constructor
   ·intro h; exact absurd rfl h
   ·intro h; exact absurd (Rat.le_antisymm (Rat.not_lt.1 h2) (Rat.not_lt.1 h1)) h
set_option maxHeartbeats 4000000 in
theorem o_rj (l : Sp) (hu : Uq l) (h0 : nzQ l ≠ []) (h12 : (nzQ l).length ≤ 12) (hl : l.length ≤ 1000000) (hr : ∀ p ∈ l, RS p.2 100000) : Eqn Tryz.prog o_86 [.mp 0] [spO l] (.d (.sl (atQ l).length (spD rcD (atQ l)))) [spO l] := by
 refine Eqn.gen [0] o_88 (by simp) (by simp) (by rfl) (by decide) (by simp) (by simp [spO]) ?_
 have hn := o_oz rcD (fun _ => rfl) l
 simp only [o_87, spO]
 refine A10 hn ?_; try with_reducible exact tt
 refine AW.loopG (α := List Nat) (fun σ => slM l σ) (fun σ => hpM l σ) (fun σ => σ.Nodup ∧ ∀ i ∈ σ, i < l.length) (fun σ => l.length - σ.length) [] ?_ ⟨by simp, by simp⟩ ?_ ?_ ?_
 ·intro σ _; unfold hpM; split <;> simp [spO]
 ·simp [slM, hpM, metQ]
 ·simp [hpM, metQ, spO, hn, o_rd]
 rintro σ ⟨hnd, hlt⟩
 have hbnd : σ.length ≤ l.length := by
  have h2 : σ.length ≤ (List.range l.length).length := hnd.length_le_of_subset fun i hi => List.mem_range.2 (hlt i hi)
  simpa using h2
 have ent : ∀ i (hi : i < l.length), ∃ (s1 s2 : Nat) (s3 : Bool) (q : Rat) (N1 N2 N3 : D), l[i] = ((s1, s2, s3), q) ∧ rcD q = [N1, N2, N3] ∧ RS q 100000 ∧ ((spD rcD l).drop (i * 6)).take 3 = [.int .i64 s1, .int .i64 s2, .bool s3] ∧ ((spD rcD l).drop (i * 6 + 3)).take 3 = [N1, N2, N3] := by
  intro i hi
  obtain ⟨⟨⟨s1, s2, s3⟩, q⟩, hp⟩ : ∃ p, l[i] = p := ⟨_, rfl⟩
  have h6 := o_mh (n := 6) (f := atomC) o_r5 l i hi
  rw [hp, ← o_r6] at h6
  have h1 : ((spD rcD l).drop (i * 6)).take 3 = (((spD rcD l).drop (i * 6)).take 6).take 3 := by rw [List.take_take]; rfl
  have h2 : ((spD rcD l).drop (i * 6 + 3)).take 3 = (((spD rcD l).drop (i * 6)).take 6).drop 3 := by rw [← List.drop_drop]; simp [List.drop_take]
  refine ⟨s1, s2, s3, q, _, _, _, hp, rfl, hr ((s1, s2, s3), q) (by have := List.getElem_mem hi; rw [hp] at this; exact this), ?_, ?_⟩
  ·rw [h1, h6]; rfl
  ·rw [h2, h6]; rfl
 have allp : (∀ i, i < l.length → i ∈ σ) → σ.Perm (List.range l.length) := fun hall => (List.perm_ext_iff_of_nodup hnd List.nodup_range).2 fun i => ⟨fun h => List.mem_range.2 (hlt i h), fun h => hall i (List.mem_range.1 h)⟩
 have ho := rof0
 by_cases m0 : (metQ l σ).length = 0
 ·have mz : metQ l σ = [] := List.eq_nil_of_length_eq_zero m0
  rw [slM, hpM, if_pos m0, if_pos m0]
  simp [spO]
  refine A10 hn ?_; try with_reducible exact tt
  refine ⟨fun i hi hin => ?_, fun hall => ?_⟩
  ·obtain ⟨s1, s2, s3, q, N1, N2, N3, hp, hN, hq, hK, hV⟩ := ent i hi
   have hc := o_lm q 0 hq (show RS (0 : Rat) 100000 from ⟨by decide, by decide⟩)
   have hms := o_re l σ i hi
   rw [hp] at hms
   have hR : (σ ++ [i]).Nodup ∧ ∀ j ∈ σ ++ [i], j < l.length := by
    refine ⟨by rw [List.nodup_append]; exact ⟨hnd, by simp, fun a ha b hb e => by simp at hb; subst hb; exact hin (e ▸ ha)⟩, fun j hj => ?_⟩
    rcases List.mem_append.1 hj with hj | hj
    ·exact hlt j hj
    ·simp at hj; subst hj; exact hi
   have hl1 : (σ ++ [i]).length ≤ l.length := by
    have h2 : (σ ++ [i]).length ≤ (List.range l.length).length := hR.1.length_le_of_subset fun j hj => List.mem_range.2 (hR.2 j hj)
    simpa using h2
   rw [List.length_append, List.length_singleton] at hl1
   have hz0 : rcD 0 = [natW 0, .bool false, natW 0] := rfl
   rw [o_q8, o_q8, hN] at hc
   rw [o_q8] at ho
   rw [hz0] at hc ho
   refine A10 (fs hi (fs hn (fs hK hV))) ?_; try with_reducible exact tt
   refine CallS.pu (ho) (R1 (fs hi (fs hn (fs hK hV))) ?_); try with_reducible exact tt
   refine CallS.pu (hc) (R0 ?_); try with_reducible exact tt
   by_cases hq0 : q = 0
   ·have hc0 : cmpQ q 0 = 0 := Classical.byContradiction fun h => (o_ri q).1 h hq0
    refine A10 hc0 ?_; try with_reducible exact tt
    have e' : metQ l (σ ++ [i]) = [] := by rw [hms, mz]; simp [hq0]
    refine ⟨σ ++ [i], 1, 1, ⟨by omega, by omega, by omega, by omega⟩, hR, by simp; omega, ?_, ?_⟩
    ·simp [slM, hpM, e', spO, swT, swH, sw, Ob.sw, V.ren, V.rens]
    ·simp [slM, hpM, e', spO, swT, swH, sw, Ob.sw, V.ren, V.rens]
   ·have hc0 : ¬ cmpQ q 0 = 0 := (o_ri q).2 hq0
    refine A10 hc0 ?_; try with_reducible exact tt
    have e' : metQ l (σ ++ [i]) = [((s1, s2, s3), q)] := by rw [hms, mz]; simp [hq0]
    refine ⟨σ ++ [i], 2, 5, ⟨by omega, by omega, by omega, by omega⟩, hR, by simp; omega, ?_, ?_⟩
    ·simp [slM, hpM, e', spO, swT, swH, sw, Ob.sw, V.ren, V.rens]
    ·simp [slM, hpM, e', spO, swT, swH, sw, Ob.sw, V.ren, V.rens, rowA, atomC, stD, hN]
  ·exfalso
   have hp := o_rf l σ (allp hall)
   rw [mz] at hp
   exact h0 (List.Perm.eq_nil hp.symm)
 ·obtain ⟨M, hM⟩ : ∃ M, M = metQ l σ := ⟨_, rfl⟩
  have hMl := o_qt o_r5 M
  rw [slM, hpM, if_neg m0, if_neg m0]
  rw [← hM] at m0 ⊢
  have hmp : 0 < M.length := by omega
  have hmM : M.length ≤ l.length := by
   rw [hM]
   have key : ∀ τ : List Nat, (metQ l τ).length ≤ τ.length := by
    intro τ
    induction τ with
    | nil => simp [metQ]
    | cons j τ ih =>
     have : metQ l (j :: τ) = (match l[j]? with | some p => if p.2 = 0 then [] else [p] | none => []) ++ metQ l τ := by unfold metQ; exact List.flatMap_cons
     rw [this, List.length_append]
     have h1 : (match l[j]? with | some p => if p.2 = 0 then [] else [p] | none => [] : Sp).length ≤ 1 := by
      split
      ·split <;> simp
      ·simp
     simp only [List.length_cons]; omega
   exact Nat.le_trans (key σ) hbnd
  simp [spO]
  refine A10 hn ?_; try with_reducible exact tt
  refine ⟨fun i hi hin => ?_, fun hall => ?_⟩
  ·obtain ⟨s1, s2, s3, q, N1, N2, N3, hp, hN, hq, hK, hV⟩ := ent i hi
   have hc := o_lm q 0 hq (show RS (0 : Rat) 100000 from ⟨by decide, by decide⟩)
   have hms := o_re l σ i hi
   rw [hp, ← hM] at hms
   have hR : (σ ++ [i]).Nodup ∧ ∀ j ∈ σ ++ [i], j < l.length := by
    refine ⟨by rw [List.nodup_append]; exact ⟨hnd, by simp, fun a ha b hb e => by simp at hb; subst hb; exact hin (e ▸ ha)⟩, fun j hj => ?_⟩
    rcases List.mem_append.1 hj with hj | hj
    ·exact hlt j hj
    ·simp at hj; subst hj; exact hi
   have hl1 : (σ ++ [i]).length ≤ l.length := by
    have h2 : (σ ++ [i]).length ≤ (List.range l.length).length := hR.1.length_le_of_subset fun j hj => List.mem_range.2 (hR.2 j hj)
    simpa using h2
   rw [List.length_append, List.length_singleton] at hl1
   have hz0 : rcD 0 = [natW 0, .bool false, natW 0] := rfl
   rw [o_q8, o_q8, hN] at hc
   rw [o_q8] at ho
   rw [hz0] at hc ho
   refine A10 (fs hi (fs hn (fs hK hV))) ?_; try with_reducible exact tt
   refine CallS.pu (ho) (R1 (fs hi (fs hn (fs hK hV))) ?_); try with_reducible exact tt
   refine CallS.pu (hc) (R0 ?_); try with_reducible exact tt
   by_cases hq0 : q = 0
   ·have hc0 : cmpQ q 0 = 0 := Classical.byContradiction fun h => (o_ri q).1 h hq0
    refine A10 hc0 ?_; try with_reducible exact tt
    have e' : metQ l (σ ++ [i]) = M := by rw [hms]; simp [hq0]
    refine ⟨σ ++ [i], 2, 2, ⟨by omega, by omega, by omega, by omega⟩, hR, by simp; omega, ?_, ?_⟩
    ·simp [slM, hpM, e', m0, spO, swT, swH, sw, Ob.sw, V.ren, V.rens]
    ·simp [slM, hpM, e', m0, spO, swT, swH, sw, Ob.sw, V.ren, V.rens]
   ·have hc0 : ¬ cmpQ q 0 = 0 := (o_ri q).2 hq0
    refine A10 (fs hc0 hMl) ?_; try with_reducible exact tt
    have e' : metQ l (σ ++ [i]) = M ++ [((s1, s2, s3), q)] := by rw [hms]; simp [hq0]
    have e2 : rowA atomC (M ++ [((s1, s2, s3), q)]) = rowA atomC M ++ [.d (.int .i64 s1), .d (.int .i64 s2), .d (.bool s3), .d N1, .d N2, .d N3] := by rw [o_qx]; simp [rowA, atomC, stD, hN]
    refine ⟨σ ++ [i], 2, 6, ⟨by omega, by omega, by omega, by omega⟩, hR, by simp; omega, ?_, ?_⟩
    ·simp [slM, hpM, e', spO, swT, swH, sw, Ob.sw, V.ren, V.rens]
    ·simp [slM, hpM, e', spO, swT, swH, sw, Ob.sw, V.ren, V.rens, ← e2]
  ·have hp := o_rf l σ (allp hall)
   rw [← hM] at hp
   have hMl2 : M.length = (atQ l).length := by rw [hp.length_eq, (o_pg l).length_eq]
   have hso := o_r8 M (by unfold Uq; exact (hp.map _).nodup_iff.2 (o_pi hu)) hmp (by rw [hp.length_eq]; exact h12) (atQ l) (o_rg l M hu hp)
   have hal : (spD rcD (atQ l)).length = (atQ l).length * 6 := o_oz rcD (fun _ => rfl) _
   have htk : (spD rcD (atQ l)).take ((atQ l).length * 6) = spD rcD (atQ l) := List.take_of_length_le (by omega)
   rw [hMl2] at hso ⊢
   refine A00 ?_; try with_reducible exact tt
   refine CallS.g [2] hso ?_
   simp
   refine AW.freeze 2 6 ⟨69, rowA atomC (atQ l)⟩ (spD rcD (atQ l)) (by simp) rfl ?_
   simp [frzH, htk]
   refine A10 htk ?_; try with_reducible exact tt
end
end Go.Proofs.YtafdpoibkmhgcaaGreatDoor.Am
namespace Go.Proofs.YtafdpoibkmhgcaaGreatDoor.Am
section
open Go.RowKit
def Gr (D B : Nat) (q : Rat) : Prop := ∃ z : Nat, q * (D : Rat) = (z : Rat) ∧ z ≤ B * D
theorem o_rk {D : Nat} (h : 0 < D) : (D : Rat) ≠ 0 := by
 intro e
 have : D = 0 := by exact_mod_cast e
 omega
theorem Gr.rs {D B N : Nat} {q : Rat} (hD : 0 < D) (hB : 1 ≤ B) (h : Gr D B q) (hN : size (B * D) ≤ N) : RS q N := by
 obtain ⟨z, h1, h2⟩ := h
 have hd := o_rk hD
 have e : q = mkRat (z : Int) D := by
  rw [Rat.mkRat_eq_div]
  have : ((z : Int) : Rat) = (z : Rat) := rfl
  rw [this, ← h1]
  rw [Rat.mul_div_cancel hd]
 rw [e]
 refine RS.mk' hD ?_ ?_
 ·exact Nat.le_trans (o_ho (by simpa using h2)) hN
 ·exact Nat.le_trans (o_ho (by exact Nat.le_mul_of_pos_left D hB)) hN
theorem Gr.zero (D B : Nat) : Gr D B 0 := ⟨0, by grind, Nat.zero_le _⟩
theorem Gr.add {D B C : Nat} {x y : Rat} (hx : Gr D B x) (hy : Gr D C y) : Gr D (B + C) (x + y) := by
 obtain ⟨z, h1, h2⟩ := hx
 obtain ⟨w, h3, h4⟩ := hy
 refine ⟨z + w, ?_, by rw [Nat.add_mul]; omega⟩
 have : ((z + w : Nat) : Rat) = (z : Rat) + (w : Rat) := by simp
 rw [this, ← h1, ← h3]; grind
theorem Gr.mul {D E B C : Nat} {x y : Rat} (hx : Gr D B x) (hy : Gr E C y) : Gr (D * E) (B * C) (x * y) := by
 obtain ⟨z, h1, h2⟩ := hx
 obtain ⟨w, h3, h4⟩ := hy
 refine ⟨z * w, ?_, ?_⟩
 ·have e1 : ((z * w : Nat) : Rat) = (z : Rat) * (w : Rat) := by simp
  have e2 : ((D * E : Nat) : Rat) = (D : Rat) * (E : Rat) := by simp
  rw [e1, e2, ← h1, ← h3]; grind
 ·have := Nat.mul_le_mul h2 h4
  refine Nat.le_trans this (Nat.le_of_eq ?_)
  rw [Nat.mul_mul_mul_comm]
theorem Gr.le {D B C : Nat} {x : Rat} (h : Gr D B x) (hbc : B ≤ C) : Gr D C x := by
 obtain ⟨z, h1, h2⟩ := h
 exact ⟨z, h1, Nat.le_trans h2 (Nat.mul_le_mul_right _ hbc)⟩
theorem Gr.one (D : Nat) : Gr D 1 1 := ⟨D, by grind, by omega⟩
theorem Gr.sub1 {D : Nat} {x : Rat} (h : Gr D 1 x) : Gr D 1 (1 - x) := by
 obtain ⟨z, h1, h2⟩ := h
 refine ⟨D - z, ?_, by omega⟩
 have e1 : ((D - z : Nat) : Rat) = (D : Rat) - (z : Rat) := by
  have : (D : Rat) = ((D - z + z : Nat) : Rat) := by rw [Nat.sub_add_cancel (by omega)]
  rw [this]
  have e : ((D - z + z : Nat) : Rat) = ((D - z : Nat) : Rat) + (z : Rat) := by simp
  rw [e]; grind
 rw [e1, ← h1]; grind
theorem o_rl {k a w : Nat} (h : GoodS k a w) : ∃ G : Nat, 0 < G ∧ G ≤ 2 ^ 63 ∧ ∀ x, x ≤ 15 → Gr G 1 (chP k a x) := by
 by_cases hk : k = 1
 ·subst hk
  have ha : 1 ≤ a ∧ a ≤ 4 := by
   rcases h.1 with ⟨-, h1, h2⟩ | ⟨h1, -⟩ | ⟨h1, -⟩
   ·exact ⟨h1, h2⟩
   ·omega
   ·omega
  refine ⟨(a + 1) ^ 15, Nat.pow_pos (by omega), Nat.le_trans (Nat.pow_le_pow_left (show a + 1 ≤ 5 by omega) 15) (by decide), fun x hx => ?_⟩
  rw [chP, if_pos rfl]
  unfold chM
  have key : ∀ n, n ≤ 15 → ∃ z : Nat, mkRat (a : Int) (a + 1) ^ n * (((a + 1) ^ n : Nat) : Rat) = (z : Rat) ∧ z ≤ (a + 1) ^ n := by
   intro n
   induction n with
   | zero => intro _; exact ⟨1, by simp, by simp⟩
   | succ n ih =>
    intro hn
    obtain ⟨z, h1, h2⟩ := ih (by omega)
    refine ⟨z * a, ?_, by rw [Nat.pow_succ]; exact Nat.mul_le_mul h2 (by omega)⟩
    have e1 : mkRat (a : Int) (a + 1) * ((a + 1 : Nat) : Rat) = (a : Rat) := by
     rw [Rat.mkRat_eq_div]
     have : ((a : Int) : Rat) = (a : Rat) := rfl
     rw [this]
     exact Rat.div_mul_cancel (o_rk (by omega))
    have e2 : (((a + 1) ^ (n + 1) : Nat) : Rat) = (((a + 1) ^ n : Nat) : Rat) * ((a + 1 : Nat) : Rat) := by rw [Nat.pow_succ]; simp
    have e3 : ((z * a : Nat) : Rat) = (z : Rat) * (a : Rat) := by simp
    rw [Rat.pow_succ, e2, e3, ← h1, ← e1]; grind
  obtain ⟨z, h1, h2⟩ := key x hx
  refine ⟨z * (a + 1) ^ (15 - x), ?_, ?_⟩
  ·have e1 : (((a + 1) ^ 15 : Nat) : Rat) = (((a + 1) ^ x : Nat) : Rat) * (((a + 1) ^ (15 - x) : Nat) : Rat) := by
    have : (a + 1) ^ 15 = (a + 1) ^ x * (a + 1) ^ (15 - x) := by rw [← Nat.pow_add]; congr 1; omega
    rw [this]; simp
   have e2 : ((z * (a + 1) ^ (15 - x) : Nat) : Rat) = (z : Rat) * (((a + 1) ^ (15 - x) : Nat) : Rat) := by simp
   rw [e1, e2, ← h1]; grind
  ·rw [Nat.one_mul, show (a + 1) ^ 15 = (a + 1) ^ x * (a + 1) ^ (15 - x) by rw [← Nat.pow_add]; congr 1; omega]
   exact Nat.mul_le_mul_right _ h2
 ·refine ⟨2 ^ 63, by decide, Nat.le_refl _, fun x hx => ?_⟩
  rw [chP, if_neg hk]
  have he := o_ny h hk hx
  generalize expOf k a x = e at *
  refine ⟨2 ^ (63 - e), ?_, by rw [Nat.one_mul]; exact Nat.pow_le_pow_right (by decide) (by omega)⟩
  have e1 : mkRat 1 (2 ^ e) * ((2 ^ e : Nat) : Rat) = 1 := by
   rw [Rat.mkRat_eq_div]
   have := Rat.div_mul_cancel (a := ((1 : Int) : Rat)) (o_rk (Nat.two_pow_pos e))
   simpa using this
  have e2 : ((2 ^ 63 : Nat) : Rat) = ((2 ^ e : Nat) : Rat) * ((2 ^ (63 - e) : Nat) : Rat) := by
   have : 2 ^ 63 = 2 ^ e * 2 ^ (63 - e) := by rw [← Nat.pow_add]; congr 1; omega
   rw [this]; simp
  rw [e2, ← Rat.mul_assoc, e1]; grind
end
end Go.Proofs.YtafdpoibkmhgcaaGreatDoor.Am
namespace Go.Proofs.YtafdpoibkmhgcaaGreatDoor.Am
section
open Go.RowKit
theorem o_rm (q : Rat) (out K : Sp) (j : Nat) (h : j < K.length) : innQ q out (K.take (j + 1)) = addQ (innQ q out (K.take j)) K[j].1 (q * K[j].2) := by
 unfold innQ; rw [List.take_add_one, List.getElem?_eq_getElem h, Option.toList, List.foldl_append]; rfl
def outQ (next : St → Sp) (A : Sp) (i : Nat) : Sp := (A.take i).foldl (fun out a => innQ a.2 out (atQ (next a.1))) []
theorem o_rn (next : St → Sp) (A : Sp) (i : Nat) (h : i < A.length) : outQ next A (i + 1) = innQ A[i].2 (outQ next A i) (atQ (next A[i].1)) := by
 unfold outQ; rw [List.take_add_one, List.getElem?_eq_getElem h, Option.toList, List.foldl_append]; rfl
theorem o_ro (next : St → Sp) (l : Sp) : outQ next (atQ l) (atQ l).length = timesQ next l := by unfold outQ timesQ; rw [List.take_length]
theorem o_rp {D B : Nat} {l : Sp} (h : ∀ p ∈ l, Gr D B p.2) (s : St) : Gr D B (getQ l s) := by
 induction l with
 | nil => exact Gr.zero D B
 | cons p l ih =>
  unfold getQ
  split
  ·exact h p (by simp)
  ·exact ih fun q hq => h q (by simp [hq])
theorem o_rq {D B : Nat} {q : Rat} {out : Sp} {C : Nat} (ho : ∀ p ∈ out, Gr D C p.2) : ∀ (K : Sp), (∀ p ∈ K, Gr D B (q * p.2)) → ∀ p ∈ innQ q out K, Gr D (C + K.length * B) p.2 := by
 have key : ∀ (K out : Sp) (C : Nat), (∀ p ∈ out, Gr D C p.2) → (∀ p ∈ K, Gr D B (q * p.2)) → ∀ p ∈ innQ q out K, Gr D (C + K.length * B) p.2 := by
  intro K
  induction K with
  | nil => intro out C ho _ p hp; simpa [innQ] using ho p hp
  | cons b K ih =>
   intro out C ho hK p hp
   have h1 : ∀ p ∈ addQ out b.1 (q * b.2), Gr D (C + B) p.2 := by
    intro p hp
    rcases o_pw hp with hp | rfl
    ·exact (ho p hp).le (by omega)
    ·exact (o_rp ho _).add (hK b (by simp))
   have := ih (addQ out b.1 (q * b.2)) (C + B) h1 (fun p hp => hK p (by simp [hp])) p hp
   refine this.le (Nat.le_of_eq ?_)
   rw [List.length_cons, Nat.add_mul, Nat.one_mul]; omega
 exact fun K => key K out C ho
theorem o_rr {D E B J : Nat} {next : St → Sp} {A : Sp} (hA : ∀ p ∈ A, Gr D B p.2) (hN : ∀ p ∈ A, (∀ r ∈ next p.1, Gr E 1 r.2) ∧ (atQ (next p.1)).length ≤ J) : ∀ i, i ≤ A.length → ∀ p ∈ outQ next A i, Gr (D * E) (i * J * B) p.2
 | 0, _ => fun p hp => by simp [outQ] at hp
 | i + 1, hi => by
  have hi' : i < A.length := hi
  have ih := o_rr hA hN i (by omega)
  rw [o_rn next A i hi']
  obtain ⟨h1, h2⟩ := hN A[i] (List.getElem_mem hi')
  have hm : ∀ p ∈ atQ (next A[i].1), Gr (D * E) B (A[i].2 * p.2) := fun p hp => by
   have := (hA A[i] (List.getElem_mem hi')).mul (h1 p (List.mem_filter.1 ((o_pg _).mem_iff.1 hp)).1)
   rwa [Nat.mul_one] at this
  intro p hp
  refine (o_rq ih _ hm p hp).le ?_
  have := Nat.mul_le_mul_right B h2
  rw [Nat.add_mul i 1 J, Nat.one_mul, Nat.add_mul]; omega
theorem o_rs {top : Nat} {c : Nat → Rat} (s : St) : nzQ (stepQ top c s) ≠ [] := by
 intro h
 have h1 := (o_pu (fun _ => 1) top c s).2
 have h2 : exQ (fun _ => (1 : Rat)) (stepQ top c s) = 1 := by
  rw [h1]; split
  ·rfl
  ·grind
 have h3 := o_pa (fun _ => (1 : Rat)) (stepQ top c s)
 rw [show (stepQ top c s).filter (fun p => decide (p.2 ≠ 0)) = nzQ (stepQ top c s) from rfl, h] at h3
 rw [h2] at h3
 exact absurd h3 (by decide)
theorem o_rt (l : Sp) (s : St) (q : Rat) : (setQ l s q).length ≤ l.length + 1 := by
 induction l with
 | nil => simp [setQ]
 | cons p l ih => unfold setQ; split <;> simp <;> omega
theorem o_ru (top : Nat) (c : Nat → Rat) (s : St) : (stepQ top c s).length ≤ 2 := by
 unfold stepQ
 split
 ·simp
 ·unfold eitQ addQ
  have := o_rt (setQ [] (s.1 + 1, s.2) (getQ [] (s.1 + 1, s.2) + c s.1)) s (getQ (setQ [] (s.1 + 1, s.2) (getQ [] (s.1 + 1, s.2) + c s.1)) s + (1 - c s.1))
  have h2 := o_rt [] (s.1 + 1, s.2) (getQ [] (s.1 + 1, s.2) + c s.1)
  simp at h2
  omega
theorem o_rv (l : Sp) : (atQ l).length ≤ l.length := by
 rw [(o_pg l).length_eq]; exact List.length_filter_le _ _
theorem o_rw {G top : Nat} {c : Nat → Rat} (hc : ∀ x, x < top → Gr G 1 (c x)) (s : St) (hs : s.1 ≤ top) : ∀ p ∈ stepQ top c s, Gr G 1 p.2 := by
 unfold stepQ
 split
 ·intro p hp; simp at hp; subst hp; exact Gr.one G
 ·rename_i e
  have h1 := hc s.1 (by omega)
  have hne : ¬ s = (s.1 + 1, s.2) := fun h => by have := congrArg Prod.fst h; simp at this
  intro p hp
  unfold eitQ at hp
  rcases o_pw hp with hp | rfl
  ·rcases o_pw hp with hp | rfl
   ·cases hp
   ·have := (Gr.zero G 0).add h1
    simpa [getQ] using this
  ·have h2 : getQ (addQ [] (s.1 + 1, s.2) (c s.1)) s = 0 := by unfold addQ; rw [o_p1, if_neg hne]; rfl
   show Gr G 1 (getQ (addQ [] (s.1 + 1, s.2) (c s.1)) s + (1 - c s.1))
   rw [h2]
   have := (Gr.zero G 0).add h1.sub1
   simpa using this
end
end Go.Proofs.YtafdpoibkmhgcaaGreatDoor.Am
namespace Go.Proofs.YtafdpoibkmhgcaaGreatDoor.Am
section
open Go.RowKit
def PO (k a w : Nat) : Ob := ⟨29, [.d (.int .i64 k), .d (.int .i64 a), .d (.int .i64 w)]⟩
theorem o_rx (A : Sp) (i : Nat) (hi : i < A.length) : ∃ (s1 s2 : Nat) (s3 : Bool) (q : Rat) (N1 N2 N3 : D), A[i] = ((s1, s2, s3), q) ∧ rcD q = [N1, N2, N3] ∧ ((spD rcD A).drop (i * 6)).take 6 = [.int .i64 s1, .int .i64 s2, .bool s3, N1, N2, N3] := by
 obtain ⟨⟨⟨s1, s2, s3⟩, q⟩, hp⟩ : ∃ p, A[i] = p := ⟨_, rfl⟩
 have h6 := o_mh (n := 6) (f := atomC) o_r5 A i hi
 rw [hp, ← o_r6] at h6
 exact ⟨s1, s2, s3, q, _, _, _, hp, rfl, by rw [h6]; rfl⟩
set_option maxHeartbeats 4000000 in
theorem o_ry {k a w : Nat} (h : GoodS k a w) (l : Sp) (G D B : Nat) (hu : Uq l) (hok : oklQ (topC w) l) (hnz : nzQ l ≠ []) (h12 : (nzQ l).length ≤ 12) (hl : l.length ≤ 1000000) (hD : 0 < D) (hB : 1 ≤ B) (hgl : ∀ p ∈ l, Gr D B p.2) (hG : 0 < G) (hc : ∀ x, x ≤ 15 → Gr G 1 (chP k a x)) (hsz : size (24 * B * (D * G)) ≤ 100000) :
  Eqn Tryz.prog o_7x [.mp 0, .fn (.func o_80) [.p 1 0]] [spO l, PO k a w] (.mp 2) [spO l, PO k a w, spO (timesQ (stepQ (topC w) (chP k a)) l)] := by
 refine Eqn.gen [0, 1, 2] o_7z (by simp) (by simp) (by rfl) (by decide) (by simp) (by simp [spO, PO]) ?_
 have h15 : topC w ≤ 15 := by have := Nat.pow_le_pow_right (n := 2) (by omega) h.2.2; unfold topC; omega
 obtain ⟨next, hnext⟩ : ∃ f, f = stepQ (topC w) (chP k a) := ⟨_, rfl⟩
 obtain ⟨A, hA⟩ : ∃ A, A = atQ l := ⟨_, rfl⟩
 have hAl : A.length ≤ 12 := by rw [hA, (o_pg l).length_eq]; exact h12
 have hA0 : 1 ≤ A.length := by
  rw [hA, (o_pg l).length_eq]
  rcases Nat.eq_zero_or_pos (nzQ l).length with e | e
  ·exact absurd (List.eq_nil_of_length_eq_zero e) hnz
  ·exact e
 have hAm : ∀ p ∈ A, p ∈ l := fun p hp => (List.mem_filter.1 ((o_pg l).mem_iff.1 (hA ▸ hp))).1
 have hDG : 0 < D * G := Nat.mul_pos hD hG
 have hBD : size (B * D) ≤ 100000 := by
  refine Nat.le_trans (o_ho ?_) hsz
  calc B * D = B * D * 1 := (Nat.mul_one _).symm
   _ ≤ B * D * (24 * G) := Nat.mul_le_mul_left _ (by omega)
   _ = 24 * B * (D * G) := by simp [Nat.mul_comm, Nat.mul_left_comm, Nat.mul_assoc]
 have hat := o_rj l hu hnz h12 hl (fun p hp => (hgl p hp).rs hD hB hBD)
 have hGs : size (1 * G) ≤ 100000 := by
  refine Nat.le_trans (o_ho ?_) hsz
  calc 1 * G ≤ (24 * B * D) * G := Nat.mul_le_mul_right _ (Nat.mul_pos (by omega) hD)
   _ = 24 * B * (D * G) := by rw [Nat.mul_assoc]
 have hgn : ∀ s : St, s.1 ≤ topC w → ∀ p ∈ next s, Gr G 1 p.2 := fun s hs => by rw [hnext]; exact o_rw (fun x hx => hc x (by omega)) s hs
 have hnl : ∀ s, (atQ (next s)).length ≤ 2 := fun s => Nat.le_trans (o_rv _) (by rw [hnext]; exact o_ru _ _ _)
 have hout := o_rr (D := D) (E := G) (B := B) (J := 2) (next := next) (A := A) (fun p hp => hgl p (hAm p hp)) (fun p hp => ⟨hgn p.1 (hok p (hAm p hp)).1.1, hnl p.1⟩)
 have hon := o_rn next A
 have hoa : outQ next A A.length = timesQ next l := by rw [hA]; exact o_ro next l
 have hADl := o_oz rcD (fun _ => rfl) A
 have hget := o_rx A
 rw [← hnext, ← hoa]
 rw [← hA] at hat
 have hcl : ∀ s : St, s.1 ≤ topC w → Eqn Tryz.prog o_80 [.d (.agg (stD s)), .p 0 0] [PO k a w] (.mp 1) [PO k a w, spO (next s)] ∧ Eqn Tryz.prog o_86 [.mp 0] [spO (next s)] (.d (.sl (atQ (next s)).length (spD rcD (atQ (next s))))) [spO (next s)] := fun s hs => by
  refine ⟨by rw [hnext]; exact o_r4 h s hs, o_rj _ (by rw [hnext]; exact (o_pu (fun _ => 0) _ _ s).1) (by rw [hnext]; exact o_rs s) ?_ ?_ fun p hp => (hgn s hs p hp).rs hG (Nat.le_refl _) hGs⟩
  ·exact Nat.le_trans (List.length_filter_le _ _) (Nat.le_trans (by rw [hnext]; exact o_ru _ _ _) (by omega))
  ·exact Nat.le_trans (by rw [hnext]; exact o_ru _ _ _) (by omega)
 have hAok : ∀ p ∈ A, p.1.1 ≤ topC w := fun p hp => (hok p (hAm p hp)).1.1
 clear hnext hA hoa hnz
 simp only [o_7y, spO, PO] at hat hcl ⊢
 generalize hLl : spD rcD l = LL at *
 refine A00 ?_; try with_reducible exact tt
 refine CallS.g [0] (hat) (R0 ?_); try with_reducible exact tt
 refine AW.loopG (α := Nat) (fun i => setS (List.replicate 40 .junk) [(1, .fn (.func o_80) [.p 1 0]), (5, .mp 2), (12, .d (.sl A.length (spD rcD A))), (13, .d (.int .i64 A.length)), (14, .d (.int .i64 (i : Nat)))]) (fun i => [some ⟨1000391, LL.map .d⟩, some ⟨29, [.d (.int .i64 k), .d (.int .i64 a), .d (.int .i64 w)]⟩, some ⟨1000391, (spD rcD (outQ next A i)).map .d⟩]) (fun i => i ≤ A.length) (fun i => A.length - i) 0 ?_ (Nat.zero_le _) ?_ ?_ ?_
 ·intro i hi; simp
 ·simp
 ·simp [outQ, spD]
 rintro i hi
 simp
 by_cases hi2 : i < A.length
 ·have hi3 : (i : Int) < A.length := by omega
  obtain ⟨s1, s2, s3, q, N1, N2, N3, hp, hN, hg⟩ := hget i hi2
  have hsk := hAok _ (List.getElem_mem hi2)
  rw [hp] at hsk
  obtain ⟨hof, han⟩ := hcl (s1, s2, s3) hsk
  have hgq : Gr D B q := by have := hgl _ (hAm _ (List.getElem_mem hi2)); rw [hp] at this; exact this
  have hon1 := hon i hi2
  rw [hp] at hon1
  simp only at hon1
  have hgo := hout i hi
  have hn2 := hnl (s1, s2, s3)
  have hgn2 := hgn (s1, s2, s3) hsk
  obtain ⟨C, hC⟩ : ∃ C, C = atQ (next (s1, s2, s3)) := ⟨_, rfl⟩
  have hCm : ∀ p ∈ C, Gr G 1 p.2 := fun p hp => hgn2 p (List.mem_filter.1 ((o_pg _).mem_iff.1 (hC ▸ hp))).1
  rw [← hC] at hon1 han hn2
  have hCl := o_oz rcD (fun _ => rfl) C
  have hgetC := o_rx C
  have ewi : IntKind.i64.wrap ((i : Int) + 1) = ((i + 1 : Nat) : Int) := by rw [w64 (by omega) (by omega)]; omega
  simp only [stD] at hof han
  generalize hNL : spD rcD (next (s1, s2, s3)) = NL at *
  have hb6 : i * 6 + 6 ≤ A.length * 6 := by omega
  have hb7 : i * 6 < A.length * 6 := by omega
  refine A10 (fs hi2 (fs hi3 (fs hg (fs hADl (fs hb6 hb7))))) ?_; try with_reducible exact tt
  refine CallS.g [1] (hof) (R0 ?_); try with_reducible exact tt
  refine CallS.g [4] (han) (R0 ?_); try with_reducible exact tt
  refine AW.loopG (α := Nat) (fun j => setS (List.replicate 40 .junk) [(1, .fn (.func o_80) [.p 1 0]), (5, .mp 2), (7, .p 3 0), (12, .d (.sl A.length (spD rcD A))), (13, .d (.int .i64 A.length)), (14, .d (.int .i64 (i : Nat))), (22, .d (.sl C.length (spD rcD C))), (23, .d (.int .i64 C.length)), (24, .d (.int .i64 (j : Nat)))]) (fun j => [some ⟨1000391, LL.map .d⟩, some ⟨29, [.d (.int .i64 k), .d (.int .i64 a), .d (.int .i64 w)]⟩, some ⟨1000391, (spD rcD (innQ q (outQ next A i) (C.take j))).map .d⟩, some ⟨69, [.d (.int .i64 s1), .d (.int .i64 s2), .d (.bool s3), .d N1, .d N2, .d N3]⟩]) (fun j => j ≤ C.length) (fun j => C.length - j) 0 ?_ (Nat.zero_le _) ?_ ?_ ?_
  ·intro j hj; simp
  ·simp
  ·simp [innQ]
  rintro j hj
  simp
  by_cases hj2 : j < C.length
  ·have hj3 : (j : Int) < C.length := by omega
   obtain ⟨t1, t2, t3, r, M1, M2, M3, hpc, hM, hgc⟩ := hgetC j hj2
   have hinn := o_rm q (outQ next A i) C j hj2
   have hgr := hCm _ (List.getElem_mem hj2)
   rw [hpc] at hinn hgr
   simp only at hinn hgr
   have hqr := hgq.mul hgr
   have hgi := o_rq (q := q) (B := B) hgo (C.take j) (fun p hp => by
    have := hgq.mul (hCm p (List.mem_of_mem_take hp))
    rwa [Nat.mul_one] at this)
   have hget2 := (o_rp hgi (t1, t2, t3)).le (C := 24 * B) (by
    have e1 : (C.take j).length ≤ 2 := by rw [List.length_take]; omega
    have e2 := Nat.mul_le_mul_right B e1
    have e3 : i * 2 * B ≤ 22 * B := Nat.mul_le_mul_right _ (by omega)
    omega)
   have hq1 := hgq.rs hD hB hBD
   have hr1 := hgr.rs hG (Nat.le_refl _) hGs
   have hmul := o_lj q r hq1 hr1
   have hadd := o_qb (innQ q (outQ next A i) (C.take j)) (t1, t2, t3) (q * r) (hget2.rs hDG (by omega) hsz) ((hqr.le (C := 24 * B) (by omega)).rs hDG (by omega) hsz)
   have ewj : IntKind.i64.wrap ((j : Int) + 1) = ((j + 1 : Nat) : Int) := by rw [w64 (by omega) (by omega)]; omega
   have hc6 : j * 6 + 6 ≤ C.length * 6 := by omega
   have hc7 : j * 6 < C.length * 6 := by omega
   rw [← hinn] at hadd
   rw [o_q8 q, o_q8 r, o_q8 (q * r), hN, hM] at hmul
   rw [o_q8 (q * r)] at hadd
   obtain ⟨P1, P2, P3, hP⟩ : ∃ P1 P2 P3, rcD (q * r) = [P1, P2, P3] := ⟨_, _, _, rfl⟩
   rw [hP] at hmul hadd
   simp only [spO, stD] at hadd
   refine A10 (fs hj2 (fs hj3 (fs hgc (fs hCl (fs hc6 hc7))))) ?_; try with_reducible exact tt
   refine CallS.pu (hmul) (R0 ?_); try with_reducible exact tt
   refine CallS.g [2] (hadd) (R0 ?_); try with_reducible exact tt
   refine A10 ewj ?_; try with_reducible exact tt
   refine ⟨j + 1, 2, 2, ⟨by omega, by omega, by omega, by omega⟩, by omega, by omega, ?_, ?_⟩
   ·simp [swT, swH, sw, Ob.sw, V.ren, V.rens]
   ·simp [swT, swH, sw, Ob.sw, V.ren, V.rens]
  ·have h2 : j = C.length := by omega
   subst h2
   rw [List.take_length, ← hon1]
   refine A00 ?_; try with_reducible exact tt
   refine A10 ewi ?_; try with_reducible exact tt
   refine ⟨i + 1, 2, 2, ⟨by omega, by omega, by omega, by omega⟩, by omega, by omega, ?_, ?_⟩
   ·simp [swT, swH, sw, Ob.sw, V.ren, V.rens]
   ·simp [swT, swH, sw, Ob.sw, V.ren, V.rens]
 ·have h2 : i = A.length := by omega
  subst h2
  refine A00 ?_; try with_reducible exact tt
end
end Go.Proofs.YtafdpoibkmhgcaaGreatDoor.Am
namespace Go.Proofs.YtafdpoibkmhgcaaGreatDoor.Am
section
open Go.RowKit
theorem o_rz {k a w : Nat} (h : GoodR k a w) (s : St) (hw : WellR k a w s.1 s.2.1 s.2.2) : Eqn Tryz.prog o_9x [.d (.agg (stD s)), .p 0 0] [PO k a w] (.d (.bool false)) [PO k a w] := by
 refine Eqn.gen [0] o_9z (by simp) (by simp) (by rfl) (by decide) (by simp) (by simp [PO]) ?_
 have hwl := o_om h s.1 s.2.1 s.2.2
 rw [o_ol.2 hw] at hwl
 simp only [o_9y, PO, stD, parD, tsD] at hwl ⊢
 refine A00 ?_; try with_reducible exact tt
 refine CallS.pu (hwl) (R0 ?_); try with_reducible exact tt
theorem o_s0 {k a w : Nat} (h : GoodR k a w) (s : St) (hw : WellR k a w s.1 s.2.1 s.2.2) : Eqn Tryz.prog o_c6 [.d (.sl 1 (stD s)), .fn (.func o_9x) [.p 0 0]] [PO k a w] (.d (.int .i64 (-1))) [PO k a w] := by
 refine Eqn.gen [0] o_c8 (by simp) (by simp) (by rfl) (by decide) (by simp) (by simp [PO]) ?_
 have hw1 := o_rz h s hw
 simp only [o_c7, PO, stD] at hw1 ⊢
 refine A00 ?_; try with_reducible exact tt
 refine AW.rounds 2 ?_
 refine A00 ?_; try with_reducible exact tt
 refine CallS.g [0] (hw1) (R0 ?_); try with_reducible exact tt
 refine A00 ?_; try with_reducible exact tt
theorem o_s1 {k a w : Nat} (h : GoodR k a w) (s : St) (hw : WellR k a w s.1 s.2.1 s.2.2) : Eqn Tryz.prog o_9u [.d (.sl 1 (stD s)), .fn (.func o_9x) [.p 0 0]] [PO k a w] (.d (.bool false)) [PO k a w] := by
 refine Eqn.gen [0] o_9w (by simp) (by simp) (by rfl) (by decide) (by simp) (by simp [PO]) ?_
 have hi := o_s0 h s hw
 simp only [o_9v, PO, stD] at hi ⊢
 refine A00 ?_; try with_reducible exact tt
 refine CallS.g [0] (hi) (R0 ?_); try with_reducible exact tt
theorem o_s2 {k a w : Nat} (h : GoodR k a w) (s : St) (hw : WellR k a w s.1 s.2.1 s.2.2) : Eqn Tryz.prog o_7o [.d (parD k a w), .d (.sl 1 (stD s))] [] (.d (.int .i64 0)) [] := by
 refine Eqn.pure o_7q Plain.ok ?_
 have hc := o_ok h
 have hi := o_s1 h s hw
 simp only [o_7p, PO, stD, parD] at hc hi ⊢
 refine A00 ?_; try with_reducible exact tt
 refine CallS.pu (hc) (R0 ?_); try with_reducible exact tt
 refine A00 ?_; try with_reducible exact tt
 refine CallS.g [0] (hi) (R0 ?_); try with_reducible exact tt
 refine A00 ?_; try with_reducible exact tt
theorem o_s3 {k a w : Nat} (hk : k ≠ 4) (hw : w ≤ 10) : Eqn Tryz.prog o_7r [.d (parD k a w)] [] (.d (.int .i64 (2 ^ w : Nat))) [] := by
 refine Eqn.pure o_7t Plain.ok ?_
 have hk' : ¬ (k : Int) = 4 := by omega
 have e0 : (2 : Int) ^ w = (2 ^ w : Nat) := by rw [Int.natCast_pow]; rfl
 have h2 : 2 ^ w ≤ 1024 := Nat.pow_le_pow_right (n := 2) (by omega) hw
 simp only [o_7s, parD]
 generalize 2 ^ w = S at *
 have e1 : IntKind.i64.wrap (S : Int) = S := w64 (by omega) (by omega)
 refine A10 (fs hk (fs hk' (fs e0 e1))) ?_; try with_reducible exact tt
end
end Go.Proofs.YtafdpoibkmhgcaaGreatDoor.Am
namespace Go.Proofs.YtafdpoibkmhgcaaGreatDoor.Am
section
open Go.RowKit
def kyQ (P : St → Prop) (l : Sp) : Prop := ∀ p ∈ l, P p.1
theorem o_s4 {P : St → Prop} {q : Rat} : ∀ {l out : Sp}, kyQ P out → kyQ P l → kyQ P (innQ q out l)
 | [], out, h, _ => h
 | b :: l, out, h, hl => o_s4 (out := addQ out b.1 (q * b.2)) (l := l) (fun p hp => by
   rcases o_pw hp with hp | rfl
   ·exact h p hp
   ·exact hl b (by simp)) fun p hp => hl p (by simp [hp])
theorem o_s5 {P : St → Prop} {l : Sp} (h : kyQ P l) : kyQ P (atQ l) := fun p hp => h p (List.mem_filter.1 ((o_pg l).mem_iff.1 hp)).1
theorem o_s6 {P P' : St → Prop} {next : St → Sp} (hn : ∀ s, P s → kyQ P' (next s)) {l : Sp} (h : kyQ P l) : kyQ P' (timesQ next l) := by
 have key : ∀ (k out : Sp), kyQ P' out → kyQ P k → kyQ P' (k.foldl (fun out a => innQ a.2 out (atQ (next a.1))) out) := by
  intro k
  induction k with
  | nil => intro out h _; exact h
  | cons a k ih =>
   intro out ho hk
   exact ih _ (o_s4 ho (o_s5 (hn _ (hk a (by simp))))) fun p hp => hk p (by simp [hp])
 exact key _ _ (fun p hp => by cases hp) (o_s5 h)
def reach (top k : Nat) (i : Nat) (t : St) : Prop := t = (top, 0, true) ∨ t.2 = (0, false) ∧ k ≤ t.1 ∧ t.1 ≤ k + i ∧ t.1 ≤ top
theorem o_s7 {top k i : Nat} {c : Nat → Rat} {t : St} (h : reach top k i t) : kyQ (reach top k (i + 1)) (stepQ top c t) := by
 obtain ⟨a, b, f⟩ := t
 unfold stepQ
 split
 ·rename_i e
  intro p hp
  simp at hp; subst hp
  left
  rcases h with h | ⟨h, -⟩
  ·have h1 := congrArg (fun x : St => x.2.1) h
   simp only at e h1
   rw [e, h1]
  ·simp only [Prod.mk.injEq] at h
   simp only at e
   rw [e, h.1]
 ·rename_i e
  simp only at e
  rcases h with h | ⟨h, h1, h2, h3⟩
  ·exact absurd (congrArg (fun x : St => x.1) h) e
  ·simp only at h h1 h2 h3
   intro p hp
   unfold eitQ at hp
   rcases o_pw hp with hp | rfl
   ·rcases o_pw hp with hp | rfl
    ·cases hp
    ·exact .inr ⟨h, by simp only; omega, by simp only; omega, by simp only; omega⟩
   ·exact .inr ⟨h, h1, by simp only; omega, h3⟩
theorem o_s8 {top : Nat} {c : Nat → Rat} {s : St} (hs : okQ top s) : ∀ i, kyQ (reach top s.1 i) (ofQ (stepQ top c) s i)
 | 0 => fun p hp => by
  simp [ofQ] at hp; subst hp
  obtain ⟨a, b, f⟩ := s
  obtain ⟨h1, h2, h3⟩ := hs
  simp only at h1 h2 h3
  subst h2
  cases f with
  | false => exact .inr ⟨rfl, Nat.le_refl _, Nat.le_refl _, h1⟩
  | true => left; rw [h3 rfl]
 | i + 1 => o_s6 (fun t ht => o_s7 ht) (o_s8 hs i)
theorem o_s9 {top k i : Nat} {l : Sp} (hu : Uq l) (h : kyQ (reach top k i) l) : l.length ≤ i + 2 := by
 have h1 : (l.map (·.1)).length ≤ ((top, 0, true) :: (List.range (i + 1)).map fun j => (k + j, 0, false) : List St).length := by
  refine List.Nodup.length_le_of_subset hu fun t ht => ?_
  obtain ⟨p, hp, rfl⟩ := List.mem_map.1 ht
  rcases h p hp with e | ⟨e, e1, e2, -⟩
  ·rw [e]; simp
  ·refine List.mem_cons_of_mem _ (List.mem_map.2 ⟨p.1.1 - k, List.mem_range.2 (by omega), ?_⟩)
   rw [show k + (p.1.1 - k) = p.1.1 by omega, ← e]
 simpa using h1
theorem o_sa {top : Nat} {c : Nat → Rat} (s : St) (n : Nat) : nzQ (ofQ (stepQ top c) s n) ≠ [] := by
 intro h
 have h2 := o_q5 (top := top) (c := c) s n
 have h3 := o_pa (fun _ => (1 : Rat)) (ofQ (stepQ top c) s n)
 rw [show (ofQ (stepQ top c) s n).filter (fun p => decide (p.2 ≠ 0)) = nzQ (ofQ (stepQ top c) s n) from rfl, h] at h3
 rw [h2] at h3
 exact absurd h3 (by decide)
theorem o_sb {G top : Nat} {c : Nat → Rat} (h0 : ∀ k, k < top → 0 ≤ c k) (h1 : ∀ k, k < top → c k ≤ 1) (hc : ∀ x, x < top → Gr G 1 (c x)) {s : St} (hs : okQ top s) : ∀ n, n ≤ 9 → ∀ p ∈ ofQ (stepQ top c) s n, Gr (G ^ n) (24 ^ n) p.2
 | 0, _ => fun p hp => by
  simp [ofQ] at hp; subst hp
  exact Gr.one _
 | n + 1, hn => by
  have ih := o_sb h0 h1 hc hs n (by omega)
  have hl := o_s9 (o_ps _ s n) (o_s8 (c := c) hs n)
  have hA : (atQ (ofQ (stepQ top c) s n)).length ≤ 12 := Nat.le_trans (o_rv _) (by omega)
  have hm : ∀ p ∈ atQ (ofQ (stepQ top c) s n), p ∈ ofQ (stepQ top c) s n := fun p hp => (List.mem_filter.1 ((o_pg _).mem_iff.1 hp)).1
  have := o_rr (D := G ^ n) (E := G) (B := 24 ^ n) (J := 2) (next := stepQ top c) (A := atQ (ofQ (stepQ top c) s n)) (fun p hp => ih p (hm p hp)) (fun p hp => ⟨o_rw hc p.1 (o_q3 h0 h1 hs n p (hm p hp)).1.1, Nat.le_trans (o_rv _) (o_ru _ _ _)⟩) _ (Nat.le_refl _)
  rw [o_ro] at this
  intro p hp
  rw [Nat.pow_succ]
  refine (this p hp).le ?_
  rw [Nat.pow_succ, Nat.mul_comm (24 ^ n) 24]
  exact Nat.mul_le_mul_right _ (by omega)
theorem o_sc (a : Nat) (h : size a ≤ 1) : ∀ n, size (a ^ n) ≤ n + 1
 | 0 => Nat.le_trans (by decide : size 1 ≤ 1) (by omega)
 | n + 1 => by
  rw [Nat.pow_succ]
  have := o_l5 (a ^ n) a
  have := o_sc a h n
  omega
theorem o_sd {G n : Nat} (hG : G ≤ 2 ^ 63) (hn : n ≤ 9) : size (24 * 24 ^ n * (G ^ n * G)) ≤ 100000 ∧ size (24 ^ n * G ^ n) ≤ 100000 := by
 have h1 : size G ≤ 1 := o_jd (Nat.lt_of_le_of_lt hG (by decide))
 have h2 : size 24 ≤ 1 := o_jd (by decide)
 have a1 := o_sc 24 h2 n
 have a2 := o_sc G h1 n
 have a3 := o_l5 (24 * 24 ^ n) (G ^ n * G)
 have a4 := o_l5 24 (24 ^ n)
 have a5 := o_l5 (G ^ n) G
 have a6 := o_l5 (24 ^ n) (G ^ n)
 omega
theorem o_se {k a w : Nat} (h : GoodS k a w) : (∀ x, x < topC w → 0 ≤ chP k a x) ∧ (∀ x, x < topC w → chP k a x ≤ 1) := by
 have h15 : topC w ≤ 15 := by have := Nat.pow_le_pow_right (n := 2) (by omega) h.2.2; unfold topC; omega
 obtain ⟨G, hG, -, hc⟩ := o_rl h
 have hp : (0 : Rat) < (G : Rat) := by exact_mod_cast hG
 refine ⟨fun x hx => ?_, fun x hx => ?_⟩
 ·obtain ⟨z, h1, h2⟩ := hc x (by omega)
  apply Classical.byContradiction
  intro hn
  have hz : (0 : Rat) ≤ (z : Rat) := by exact_mod_cast Nat.zero_le z
  have := Rat.mul_lt_mul_of_pos_right (Rat.not_le.1 hn) hp
  grind
 ·obtain ⟨z, h1, h2⟩ := hc x (by omega)
  apply Classical.byContradiction
  intro hn
  have hz : (z : Rat) ≤ (G : Rat) := by exact_mod_cast (by omega : z ≤ G)
  have := Rat.mul_lt_mul_of_pos_right (Rat.not_le.1 hn) hp
  grind
end
end Go.Proofs.YtafdpoibkmhgcaaGreatDoor.Am
namespace Go.Proofs.YtafdpoibkmhgcaaGreatDoor.Am
section
open Go.RowKit
def dstQ (k a w : Nat) (s : St) (n : Nat) : Sp := ofQ (stepQ (topC w) (chP k a)) s n
set_option maxHeartbeats 4000000 in
theorem o_sf {k a w : Nat} (h : GoodS k a w) (s : St) (hw : WellR k a w s.1 s.2.1 s.2.2) (hs : okQ (topC w) s) (n : Nat) (hn : n ≤ 8) : Eqn Tryz.prog o_6r [.d (parD k a w), .d (.agg (stD s)), .d (.int .i64 n)] [] (.tup [.d (.sl (atQ (dstQ k a w s n)).length (spD rcD (atQ (dstQ k a w s n)))), .d (.int .i64 0)]) [] := by
 refine Eqn.pure o_6t Plain.ok ?_
 have hk4 : k ≠ 4 := by have := h.1; omega
 have w4 := h.2.2
 have hg : GoodR k a w := .inr ⟨hk4, o_o5 h⟩
 have h15 : topC w ≤ 15 := by have := Nat.pow_le_pow_right (n := 2) (by omega) h.2.2; unfold topC; omega
 have hwr := o_s2 hg s hw
 have hst := o_s3 (a := a) hk4 (show w ≤ 10 by omega)
 have hsu := o_qf s
 obtain ⟨c0, c1⟩ := o_se h
 obtain ⟨G, hG, hG63, hc⟩ := o_rl h
 have h16 : 2 ^ w ≤ 16 := Nat.pow_le_pow_right (n := 2) (by omega) w4
 have hti : ∀ i, i ≤ 7 → Eqn Tryz.prog o_7x [.mp 0, .fn (.func o_80) [.p 1 0]] [spO (dstQ k a w s i), PO k a w] (.mp 2) [spO (dstQ k a w s i), PO k a w, spO (dstQ k a w s (i + 1))] := fun i hi => by
  have hl := o_s9 (o_ps _ s i) (o_s8 (c := chP k a) hs i)
  exact o_ry h (dstQ k a w s i) G (G ^ i) (24 ^ i) (o_ps _ s i) (o_q3 c0 c1 hs i) (o_sa s i) (Nat.le_trans (List.length_filter_le _ _) (Nat.le_trans hl (by omega))) (Nat.le_trans hl (by omega)) (Nat.pow_pos hG) (Nat.pow_pos (by decide)) (o_sb c0 c1 (fun x hx => hc x (by omega)) hs i (by omega)) hG hc (o_sd hG63 (by omega)).1
 have hat : Eqn Tryz.prog o_86 [.mp 0] [spO (dstQ k a w s n)] (.d (.sl (atQ (dstQ k a w s n)).length (spD rcD (atQ (dstQ k a w s n))))) [spO (dstQ k a w s n)] := by
  have hl := o_s9 (o_ps _ s n) (o_s8 (c := chP k a) hs n)
  exact o_rj _ (o_ps _ s n) (o_sa s n) (Nat.le_trans (List.length_filter_le _ _) (Nat.le_trans hl (by omega))) (Nat.le_trans hl (by omega)) (fun p hp => (o_sb c0 c1 (fun x hx => hc x (by omega)) hs n (by omega) p hp).rs (Nat.pow_pos hG) (Nat.pow_pos (by decide)) (o_sd hG63 (by omega)).2)
 have hd0 : dstQ k a w s 0 = [(s, 1)] := rfl
 rw [← hd0] at hsu
 have e1 : IntKind.i64.wrap ((n : Int) + 1) = ((n + 1 : Nat) : Int) := by rw [w64 (by omega) (by omega)]; omega
 obtain ⟨W, hW⟩ : ∃ W, W = 2 ^ w := ⟨_, rfl⟩
 rw [← hW] at hst h16
 have hmul : (n + 1) * W ≤ 9 * 16 := Nat.mul_le_mul (by omega) h16
 have e2 : IntKind.i64.wrap (((n + 1 : Nat) : Int) * (W : Int)) = (((n + 1) * W : Nat) : Int) := by rw [← Int.natCast_mul]; exact w64 (by omega) (by omega)
 obtain ⟨M, hM⟩ : ∃ M, M = (n + 1) * W := ⟨_, rfl⟩
 rw [← hM] at e2 hmul
 obtain ⟨n1, hn1⟩ : ∃ n1, n1 = n + 1 := ⟨_, rfl⟩
 rw [← hn1] at e1 e2
 have g1 : ¬ (n : Int) < 0 := by omega
 have g2 : ¬ (64 : Int) < n := by omega
 have g3 : ¬ (512 : Int) < M := by omega
 have g4 : ¬ 512 < M := by omega
 have g5 : ¬ 64 < n := by omega
 generalize hA : atQ (dstQ k a w s n) = A at *
 simp only [o_6s, stD, parD, spO, PO] at hwr hst hsu hti hat ⊢
 refine A00 ?_; try with_reducible exact tt
 refine CallS.pf 2 3 ⟨35, [.d (.int .i64 s.1), .d (.int .i64 s.2.1), .d (.bool s.2.2)]⟩ [.int .i64 s.1, .int .i64 s.2.1, .bool s.2.2] (hwr) (by first | rfl | (simp [g1, g2, g5]; done)) (R1 (fs g1 (fs g2 g5)) ?_); try with_reducible exact tt
 refine A10 (fs g1 (fs g2 (fs g5 e1))) ?_; try with_reducible exact tt
 refine CallS.pu (hst) (R1 (fs e2 (fs g3 g4)) ?_); try with_reducible exact tt
 refine A10 (fs e2 (fs g3 g4)) ?_; try with_reducible exact tt
 refine CallS.nX (hsu) (R0 ?_); try with_reducible exact tt
 refine AW.loopG (α := Nat) (fun i => setS (List.replicate 43 .junk) [(3, .p 0 0), (9, .mp 3), (34, .d (.int .i64 n)), (35, .d (.int .i64 (i : Nat)))]) (fun i => [some ⟨29, [.d (.int .i64 k), .d (.int .i64 a), .d (.int .i64 w)]⟩, none, none, some ⟨1000391, (spD rcD (dstQ k a w s i)).map .d⟩]) (fun i => i ≤ n) (fun i => n - i) 0 ?_ (Nat.zero_le _) ?_ ?_ ?_
 ·intro i hi; simp
 ·simp
 ·simp
 rintro i hi
 simp
 by_cases hi2 : i < n
 ·have hi3 : (i : Int) < n := by omega
  have ew : IntKind.i64.wrap ((i : Int) + 1) = ((i + 1 : Nat) : Int) := by rw [w64 (by omega) (by omega)]; omega
  have ht := hti i (by omega)
  refine A10 (fs hi2 hi3) ?_; try with_reducible exact tt
  refine CallS.g [3, 0] (ht) (R1 ew ?_); try with_reducible exact tt
  refine A10 ew ?_; try with_reducible exact tt
  refine ⟨i + 1, 3, 4, by omega, by omega, by omega, ?_, ?_⟩
  ·simp [swT, swH, sw, Ob.sw, V.ren, V.rens]
  ·simp [swT, swH, sw, Ob.sw, V.ren, V.rens]
 ·have h2 : i = n := by omega
  subst h2
  refine A00 ?_; try with_reducible exact tt
  refine CallS.g [3] (hat) (R0 ?_); try with_reducible exact tt
  done
end
end Go.Proofs.YtafdpoibkmhgcaaGreatDoor.Am
namespace Go.Proofs.YtafdpoibkmhgcaaGreatDoor.Am
section
open Go.RowKit
theorem o_sg {s : St} : ∀ (A : Sp) (j : Nat) (h : j < A.length), (∀ i (hi : i < A.length), i < j → A[i].1 ≠ s) → A[j].1 = s → getQ A s = A[j].2
 | [], j, h, _, _ => by simp at h
 | p :: A, 0, h, _, e => by
  have e' : p.1 = s := e
  unfold getQ; rw [if_pos e'.symm]; rfl
 | p :: A, j + 1, h, hn, e => by
  have h0 := hn 0 (by simp) (by omega)
  simp only [List.getElem_cons_zero] at h0
  unfold getQ
  rw [if_neg fun e => h0 e.symm]
  have := o_sg (s := s) A j (by simpa using h) (fun i hi hij => by have := hn (i + 1) (by simpa using hi) (by omega); simpa using this) (by simpa using e)
  simpa using this
theorem o_sh {s : St} : ∀ (A : Sp), (∀ i (hi : i < A.length), A[i].1 ≠ s) → getQ A s = 0
 | [], _ => rfl
 | p :: A, hn => by
  have h0 := hn 0 (by simp)
  simp only [List.getElem_cons_zero] at h0
  unfold getQ
  rw [if_neg fun e => h0 e.symm]
  exact o_sh A fun i hi => by have := hn (i + 1) (by simpa using hi); simpa using this
set_option maxHeartbeats 2000000 in
theorem o_si (A : Sp) (hA : A.length ≤ 1000000) (y1 y2 : Nat) (y3 : Bool) : Eqn Tryz.prog o_6x [.d (.sl A.length (spD rcD A)), .d (.agg [.int .i64 y1, .int .i64 y2, .bool y3])] [] (.d (rD (getQ A (y1, y2, y3)))) [] := by
 refine Eqn.pure o_6z Plain.ok ?_
 have hl := o_oz rcD (fun _ => rfl) A
 have hget := o_rx A
 have ho := rof0
 simp only [o_6y]
 obtain ⟨Z1, Z2, Z3, hZ⟩ : ∃ Z1 Z2 Z3, rcD (getQ A (y1, y2, y3)) = [Z1, Z2, Z3] := ⟨_, _, _, rfl⟩
 rw [o_q8, hZ]
 refine A00 ?_; try with_reducible exact tt
 refine AW.loopG (α := Nat) (fun j => setS (List.replicate 21 .junk) [(3, .p 0 0), (4, .p 1 0), (7, .d (.sl A.length (spD rcD A))), (8, .d (.int .i64 A.length)), (9, .d (.int .i64 (j : Nat)))]) (fun j => [some ⟨35, [.d (.int .i64 y1), .d (.int .i64 y2), .d (.bool y3)]⟩, some ⟨57, [.d .nilsl, .d (.bool false), .d .nilsl]⟩]) (fun j => j ≤ A.length ∧ ∀ i (hi : i < A.length), i < j → A[i].1 ≠ (y1, y2, y3)) (fun j => A.length - j) 0 ?_ ⟨Nat.zero_le _, fun _ _ h => by omega⟩ ?_ ?_ ?_
 ·intro j hj; simp
 ·simp
 ·simp
 rintro j ⟨hj, hno⟩
 simp
 by_cases hj2 : j < A.length
 ·have hj3 : (j : Int) < A.length := by omega
  obtain ⟨s1, s2, s3, q, N1, N2, N3, hp, hN, hg⟩ := hget j hj2
  have hb6 : j * 6 + 6 ≤ A.length * 6 := by omega
  have hb7 : j * 6 < A.length * 6 := by omega
  have ewj : IntKind.i64.wrap ((j : Int) + 1) = ((j + 1 : Nat) : Int) := by rw [w64 (by omega) (by omega)]; omega
  by_cases h1 : s1 = y1
  ·by_cases h2 : s2 = y2
   ·by_cases h3 : s3 = y3
    ·have hf := o_sg A j hj2 hno (by rw [hp, h1, h2, h3])
     rw [hp] at hf
     simp only at hf
     rw [hf, hN] at hZ
     simp only [List.cons.injEq, and_true] at hZ
     obtain ⟨z1, z2, z3⟩ := hZ
     subst h1 h2 h3 z1 z2 z3
     refine A10 (fs hj2 (fs hj3 (fs hg (fs hl (fs hb6 hb7))))) ?_; try with_reducible exact tt
     done
    ·have hne : (s1, s2, s3) ≠ (y1, y2, y3) := fun e => h3 (by simpa using congrArg (fun x : St => x.2.2) e)
     subst h1 h2
     have h4 : (s3 == y3) = false := by simpa using h3
     refine A10 (fs hj2 (fs hj3 (fs hg (fs hl (fs hb6 (fs hb7 (fs h3 h4))))))) ?_; try with_reducible exact tt
     refine A10 ewj ?_; try with_reducible exact tt
     have hno2 : ∀ i (hi : i < A.length), i < j + 1 → A[i].1 ≠ (s1, s2, y3) := fun i hi h => by
      by_cases e : i = j
      ·subst e; rw [hp]; exact hne
      ·exact hno i hi (by omega)
     refine ⟨j + 1, 0, 0, by simp, ⟨by omega, hno2⟩, by omega, ?_, ?_⟩
     ·simp [swT, swH, sw, Ob.sw, V.ren, V.rens]
     ·simp [swT, swH, sw, Ob.sw, V.ren, V.rens]
   ·have hne : (s1, s2, s3) ≠ (y1, y2, y3) := fun e => h2 (by simpa using congrArg (fun x : St => x.2.1) e)
    subst h1
    have h4 : ((s2 : Int) == (y2 : Int)) = false := by simp; omega
    have h5 : ¬ (s2 : Int) = (y2 : Int) := by omega
    refine A10 (fs hj2 (fs hj3 (fs hg (fs hl (fs hb6 (fs hb7 (fs h2 (fs h4 h5)))))))) ?_; try with_reducible exact tt
    refine A10 ewj ?_; try with_reducible exact tt
    have hno2 : ∀ i (hi : i < A.length), i < j + 1 → A[i].1 ≠ (s1, y2, y3) := fun i hi h => by
     by_cases e : i = j
     ·subst e; rw [hp]; exact hne
     ·exact hno i hi (by omega)
    refine ⟨j + 1, 0, 0, by simp, ⟨by omega, hno2⟩, by omega, ?_, ?_⟩
    ·simp [swT, swH, sw, Ob.sw, V.ren, V.rens]
    ·simp [swT, swH, sw, Ob.sw, V.ren, V.rens]
  ·have hne : (s1, s2, s3) ≠ (y1, y2, y3) := fun e => h1 (by simpa using congrArg (fun x : St => x.1) e)
   have h4 : ((s1 : Int) == (y1 : Int)) = false := by simp; omega
   have h5 : ¬ (s1 : Int) = (y1 : Int) := by omega
   refine A10 (fs hj2 (fs hj3 (fs hg (fs hl (fs hb6 (fs hb7 (fs h1 (fs h4 h5)))))))) ?_; try with_reducible exact tt
   refine A10 ewj ?_; try with_reducible exact tt
   have hno2 : ∀ i (hi : i < A.length), i < j + 1 → A[i].1 ≠ (y1, y2, y3) := fun i hi h => by
    by_cases e : i = j
    ·subst e; rw [hp]; exact hne
    ·exact hno i hi (by omega)
   refine ⟨j + 1, 0, 0, by simp, ⟨by omega, hno2⟩, by omega, ?_, ?_⟩
   ·simp [swT, swH, sw, Ob.sw, V.ren, V.rens]
   ·simp [swT, swH, sw, Ob.sw, V.ren, V.rens]
 ·have h2 : j = A.length := by omega
  have hz : getQ A (y1, y2, y3) = 0 := o_sh A fun i hi => hno i hi (by omega)
  rw [o_q8] at ho
  rw [← hz, hZ] at ho
  subst h2
  refine A00 ?_; try with_reducible exact tt
  refine CallS.pu (ho) (R0 ?_); try with_reducible exact tt
end
end Go.Proofs.YtafdpoibkmhgcaaGreatDoor.Am
namespace Go.Proofs.YtafdpoibkmhgcaaGreatDoor.Am
section
open Go.RowKit
theorem o_sj {l K N : Sp} (hu : Uq l) (hN : nzQ l = N) (hp : K.Perm N) (hs : K.Pairwise fun a b => ltS a.1 b.1 = true) : atQ l = K := (o_pl hu (hN ▸ hp) hs).symm
def hf2 : Rat := mkRat 1 2
theorem dst2 : atQ (dstQ 1 1 2 (0, 0, false) 2) = [((1, 0, false), hf2), ((2, 0, false), hf2)] := by
 have c0 : stepQ (topC 2) (chP 1 1) (0, 0, false) = [((1, 0, false), 1), ((0, 0, false), 0)] := by kernel_rfl
 have c1 : stepQ (topC 2) (chP 1 1) (1, 0, false) = [((2, 0, false), hf2), ((1, 0, false), hf2)] := by kernel_rfl
 have a0 : atQ [(((0, 0, false) : St), (1 : Rat))] = [((0, 0, false), 1)] := o_sj (N := [((0, 0, false), 1)]) (by unfold Uq; decide) (by kernel_rfl) (List.Perm.refl _) (by decide)
 have a1 : atQ [(((1, 0, false) : St), (1 : Rat)), ((0, 0, false), 0)] = [((1, 0, false), 1)] := o_sj (N := [((1, 0, false), 1)]) (by unfold Uq; decide) (by kernel_rfl) (List.Perm.refl _) (by decide)
 have a2 : atQ [(((1, 0, false) : St), (1 : Rat))] = [((1, 0, false), 1)] := o_sj (N := [((1, 0, false), 1)]) (by unfold Uq; decide) (by kernel_rfl) (List.Perm.refl _) (by decide)
 have a3 : atQ [(((2, 0, false) : St), hf2), ((1, 0, false), hf2)] = [((1, 0, false), hf2), ((2, 0, false), hf2)] := o_sj (N := [((2, 0, false), hf2), ((1, 0, false), hf2)]) (by unfold Uq; decide) (by kernel_rfl) (List.Perm.swap _ _ _) (by decide)
 have a4 : atQ [(((1, 0, false) : St), hf2), ((2, 0, false), hf2)] = [((1, 0, false), hf2), ((2, 0, false), hf2)] := o_sj (N := [((1, 0, false), hf2), ((2, 0, false), hf2)]) (by unfold Uq; decide) (by kernel_rfl) (List.Perm.refl _) (by decide)
 have d1 : dstQ 1 1 2 (0, 0, false) 1 = [((1, 0, false), 1)] := by
  show timesQ _ [((0, 0, false), 1)] = _
  unfold timesQ
  rw [a0]
  simp only [List.foldl_cons, List.foldl_nil]
  rw [c0, a1]
  kernel_rfl
 have d2 : dstQ 1 1 2 (0, 0, false) 2 = [((1, 0, false), hf2), ((2, 0, false), hf2)] := by
  show timesQ _ (dstQ 1 1 2 (0, 0, false) 1) = _
  rw [d1]
  unfold timesQ
  rw [a2]
  simp only [List.foldl_cons, List.foldl_nil]
  rw [c1, a3]
  kernel_rfl
 rw [d2, a4]
theorem o_sk : Eqn Tryz.prog o_6i [] [] (.d (.bool true)) [] := by
 refine Eqn.pure o_6k Plain.ok ?_
 have hG : GoodS 1 1 2 := ⟨.inl ⟨rfl, by omega, by omega⟩, by omega, by omega⟩
 have hof := o_sf hG (0, 0, false) (.inr ⟨by omega, rfl, by simp, by simp⟩) ⟨Nat.zero_le _, rfl, by simp⟩ 2 (by omega)
 rw [dst2] at hof
 have hsp : spD rcD [(((1, 0, false) : St), hf2), ((2, 0, false), hf2)] = [.int .i64 1, .int .i64 0, .bool false, natW 1, .bool false, natW 1, .int .i64 2, .int .i64 0, .bool false, natW 1, .bool false, natW 1] := by rfl
 rw [hsp] at hof
 have ht := o_m3 1 1 (by omega) (by omega) (by omega)
 have hs : (smallS 1 ++ ⟨#[47]⟩ ++ smallS (1 + 1)).toList = [49, 47, 50] := by kernel_rfl
 simp only [o_6j, parD, stD] at hof ⊢
 generalize natW 1 = N1 at *
 generalize hSS : smallS 1 ++ ⟨#[47]⟩ ++ smallS (1 + 1) = SS at *
 simp at hof
 refine A00 ?_; try with_reducible exact tt
 refine CallS.pu (hof) (R0 ?_); try with_reducible exact tt
 refine CallS.pu (ht) (R1 hs ?_); try with_reducible exact tt
 refine CallS.pu (ht) (R1 hs ?_); try with_reducible exact tt
end
end Go.Proofs.YtafdpoibkmhgcaaGreatDoor.Am
namespace Go.Proofs.YtafdpoibkmhgcaaGreatDoor.Am
section
open Go.RowKit
def dlQ (s t : St) : Rat := if t = s then 1 else 0
def gA (top : Nat) : Nat → St → Rat
 | 0, _ => 0
 | i + 1, t => (gA top i t + dlQ (top - i, 0, true) t) + dlQ (top - i, 0, false) t
def gM (top i : Nat) (t : St) : Rat := gA top i t + dlQ (top - i, 0, true) t
def accQ (l : Sp) (top : Nat) : Nat → Rat
 | 0 => 0
 | i + 1 => (accQ l top i + getQ l (top - i, 0, true)) + getQ l (top - i, 0, false)
def midQ (l : Sp) (top i : Nat) : Rat := accQ l top i + getQ l (top - i, 0, true)
theorem o_sl (g h : St → Rat) : ∀ l : Sp, exQ (fun t => g t + h t) l = exQ g l + exQ h l
 | [] => by simp only [exQ]; grind
 | p :: l => by simp only [exQ, o_sl g h l]; grind
theorem o_sm : ∀ l : Sp, exQ (fun _ => 0) l = 0
 | [] => rfl
 | p :: l => by simp only [exQ, o_sm l]; grind
theorem o_sn {l : Sp} (hu : Uq l) (top : Nat) : ∀ i, accQ l top i = exQ (gA top i) l
 | 0 => (o_sm l).symm
 | i + 1 => by
  have e : gA top (i + 1) = fun t => (fun t => gA top i t + dlQ (top - i, 0, true) t) t + dlQ (top - i, 0, false) t := rfl
  rw [e, o_sl, o_sl (gA top i), ← o_sn hu top i, accQ, o_pm _ _ hu, o_pm _ _ hu]
  rfl
theorem o_so {l : Sp} (hu : Uq l) (top i : Nat) : midQ l top i = exQ (gM top i) l := by
 have e : gM top i = fun t => gA top i t + dlQ (top - i, 0, true) t := rfl
 rw [e, o_sl (gA top i), ← o_sn hu top i, midQ, o_pm _ _ hu]
 rfl
theorem o_sp {top : Nat} {t : St} (ht : t.2.1 = 0) (h1 : t.1 ≤ top) : ∀ i, i ≤ top + 1 → gA top i t = if top < t.1 + i then 1 else 0
 | 0, _ => by rw [gA, if_neg (by omega)]
 | i + 1, hi => by
  obtain ⟨a, b, f⟩ := t
  simp only at ht h1
  subst ht
  rw [gA, o_sp (t := (a, 0, f)) rfl h1 i (by omega)]
  unfold dlQ
  simp only [Prod.mk.injEq]
  by_cases e : a = top - i
  ·rw [if_neg (show ¬ top < a + i by omega), if_pos (show top < a + (i + 1) by omega)]
   cases f <;> simp [e] <;> grind
  ·simp only [e, false_and, if_false]
   by_cases e2 : top < a + i
   ·rw [if_pos e2, if_pos (by omega)]; grind
   ·rw [if_neg e2, if_neg (by omega)]; grind
theorem o_sq {top : Nat} {t : St} (ht : t.2.1 = 0) (h1 : t.1 ≤ top) (i : Nat) (hi : i ≤ top) : gM top i t = if top < t.1 + i ∨ (t.1 = top - i ∧ t.2.2 = true) then 1 else 0 := by
 obtain ⟨a, b, f⟩ := t
 simp only at ht h1
 subst ht
 rw [gM, o_sp (t := (a, 0, f)) rfl h1 i (by omega)]
 unfold dlQ
 simp only [Prod.mk.injEq]
 by_cases e : a = top - i
 ·rw [if_neg (show ¬ top < a + i by omega)]
  cases f <;> simp [e] <;> (try omega) <;> grind
 ·simp only [e, false_and, if_false, or_false]
  by_cases e2 : top < a + i
  ·rw [if_pos e2]; grind
  ·rw [if_neg e2]; grind
theorem o_sr {c x y : Rat} (h0 : 0 ≤ c) (h : x ≤ y) : x ≤ c * y + (1 - c) * x := by
 have := Rat.mul_le_mul_of_nonneg_left h h0
 grind
theorem o_ss {p q : Prop} [Decidable p] [Decidable q] (h : p → q) : (if p then (1 : Rat) else 0) ≤ if q then 1 else 0 := by
 by_cases hp : p
 ·rw [if_pos hp, if_pos (h hp)]; exact Rat.le_refl
 ·rw [if_neg hp]; split <;> decide
theorem o_st {top : Nat} {c : Nat → Rat} (h0 : ∀ k, k < top → 0 ≤ c k) (i : Nat) (hi : i ≤ top + 1) (t : St) (ht : okQ top t) : gA top i t ≤ if t.1 = top then gA top i (t.1, t.2.1, true) else c t.1 * gA top i (t.1 + 1, t.2) + (1 - c t.1) * gA top i t := by
 obtain ⟨h1, h2, h3⟩ := ht
 by_cases e : t.1 = top
 ·rw [if_pos e, o_sp h2 h1 i hi, o_sp (t := (t.1, t.2.1, true)) h2 h1 i hi]; exact Rat.le_refl
 ·rw [if_neg e]
  refine o_sr (h0 _ (by omega)) ?_
  rw [o_sp h2 h1 i hi, o_sp (t := (t.1 + 1, t.2)) h2 (by simp only; omega) i hi]
  exact o_ss fun h => by simp only; omega
theorem o_su {top : Nat} {c : Nat → Rat} (h0 : ∀ k, k < top → 0 ≤ c k) (i : Nat) (hi : i ≤ top) (t : St) (ht : okQ top t) : gM top i t ≤ if t.1 = top then gM top i (t.1, t.2.1, true) else c t.1 * gM top i (t.1 + 1, t.2) + (1 - c t.1) * gM top i t := by
 obtain ⟨h1, h2, h3⟩ := ht
 by_cases e : t.1 = top
 ·rw [if_pos e, o_sq h2 h1 i hi, o_sq (t := (t.1, t.2.1, true)) h2 h1 i hi]
  exact o_ss fun h => by rcases h with h | h; exact .inl h; exact .inr ⟨h.1, rfl⟩
 ·rw [if_neg e]
  refine o_sr (h0 _ (by omega)) ?_
  rw [o_sq h2 h1 i hi, o_sq (t := (t.1 + 1, t.2)) h2 (by simp only; omega) i hi]
  refine o_ss fun h => ?_
  rcases h with h | h
  ·left; simp only; omega
  ·exact absurd (h3 h.2) e
theorem o_sv {k a w : Nat} (h : GoodS k a w) (s : St) (hs : okQ (topC w) s) (n i : Nat) (hi : i ≤ topC w + 1) : accQ (dstQ k a w s n) (topC w) i ≤ accQ (dstQ k a w s (n + 1)) (topC w) i := by
 obtain ⟨c0, c1⟩ := o_se h
 unfold dstQ
 rw [o_sn (o_ps _ s n), o_sn (o_ps _ s (n + 1))]
 exact o_q4 c0 c1 hs n _ fun t ht => o_st c0 i hi t ht
theorem o_sw {k a w : Nat} (h : GoodS k a w) (s : St) (hs : okQ (topC w) s) (n i : Nat) (hi : i ≤ topC w) : midQ (dstQ k a w s n) (topC w) i ≤ midQ (dstQ k a w s (n + 1)) (topC w) i := by
 obtain ⟨c0, c1⟩ := o_se h
 unfold dstQ
 rw [o_so (o_ps _ s n), o_so (o_ps _ s (n + 1))]
 exact o_q4 c0 c1 hs n _ fun t ht => o_su c0 i hi t ht
theorem o_sx {k a w : Nat} (h : GoodS k a w) (s : St) (hs : okQ (topC w) s) (n : Nat) : accQ (dstQ k a w s n) (topC w) (topC w + 1) = 1 := by
 obtain ⟨c0, c1⟩ := o_se h
 unfold dstQ
 rw [o_sn (o_ps _ s n)]
 have h1 := o_q5 (top := topC w) (c := chP k a) s n
 have hok := o_q3 c0 c1 hs n
 have e : ∀ t, okQ (topC w) t → gA (topC w) (topC w + 1) t = 1 := fun t ht => by rw [o_sp ht.2.1 ht.1 _ (Nat.le_refl _), if_pos (by omega)]
 refine Rat.le_antisymm ?_ ?_
 ·rw [← h1]; exact o_pv (fun t ht => by rw [e t ht]; exact Rat.le_refl) hok
 ·rw [← h1]; exact o_pv (fun t ht => by rw [e t ht]; exact Rat.le_refl) hok
theorem o_sy {k a w : Nat} (h : GoodS k a w) (s : St) (hs : okQ (topC w) s) (n : Nat) (hn : n ≤ 8) : ∃ D, 0 < D ∧ (∀ t, Gr D (24 ^ n) (getQ (dstQ k a w s n) t)) ∧ size (100 * 24 ^ n * D) ≤ 100000 := by
 obtain ⟨c0, c1⟩ := o_se h
 obtain ⟨G, hG, hG63, hc⟩ := o_rl h
 have h15 : topC w ≤ 15 := by have := Nat.pow_le_pow_right (n := 2) (by omega) h.2.2; unfold topC; omega
 refine ⟨G ^ n, Nat.pow_pos hG, fun t => o_rp (o_sb c0 c1 (fun x hx => hc x (by omega)) hs n (by omega)) t, ?_⟩
 have h1 : size G ≤ 1 := o_jd (Nat.lt_of_le_of_lt hG63 (by decide))
 have a1 := o_sc 24 (o_jd (by decide)) n
 have a2 := o_sc G h1 n
 have a3 := o_l5 (100 * 24 ^ n) (G ^ n)
 have a4 := o_l5 100 (24 ^ n)
 have a5 : size 100 ≤ 1 := o_jd (by decide)
 omega
theorem o_sz {D B : Nat} {l : Sp} (h : ∀ t, Gr D B (getQ l t)) (top : Nat) : ∀ i, Gr D (2 * i * B) (accQ l top i)
 | 0 => Gr.zero _ _
 | i + 1 => by
  have := ((o_sz h top i).add (h (top - i, 0, true))).add (h (top - i, 0, false))
  refine this.le (Nat.le_of_eq ?_)
  rw [show 2 * (i + 1) = 2 * i + 1 + 1 by omega, Nat.add_mul, Nat.add_mul, Nat.one_mul]
theorem o_t0 {x y : Rat} (h : x ≤ y) : ¬ 0 < cmpQ x y := by
 unfold cmpQ
 by_cases h1 : x < y
 ·rw [if_pos h1]; omega
 ·rw [if_neg h1, if_neg (Rat.not_lt.2 h)]; omega
theorem o_t1 (x : Rat) : cmpQ x x = 0 := by unfold cmpQ; rw [if_neg Rat.lt_irrefl, if_neg Rat.lt_irrefl]
end
end Go.Proofs.YtafdpoibkmhgcaaGreatDoor.Am
namespace Go.Proofs.YtafdpoibkmhgcaaGreatDoor.Am
section
open Go.RowKit
set_option maxHeartbeats 8000000 in
theorem o_t2 (k a b y t : Int) (f : Bool) (n : Int) : Eqn Tryz.prog o_6f [.d (parD k a b), .d (.agg [.int .i64 y, .int .i64 t, .bool f]), .d (.int .i64 n)] [] (.d (.bool true)) [] := by
 refine Eqn.pure o_6h Plain.ok ?_
 obtain ⟨K, A, B, hsr, hsm⟩ := o_or k a b
 obtain ⟨Y, T, F, hw, hs1⟩ := hsm y t f
 obtain ⟨m, hm, hm7, -⟩ := o_nr n 7 (by omega)
 replace hm : bits BinOp.and IntKind.i64 n 7 = m := hm
 simp only [o_6g, parD, tsD] at hs1 ⊢
 by_cases hk4 : K = 4
 ·have hk4' : (K : Int) = 4 := by omega
  refine A01 o_sk ?_; try with_reducible exact tt
  refine CallS.pu (hs1) (R1 (fs hk4 hk4') ?_); try with_reducible exact tt
  refine A10 (fs hk4 hk4') ?_; try with_reducible exact tt
  done
 ·have hk4' : ¬ (K : Int) = 4 := by omega
  have hG : GoodS K A B := by
   rcases hsr with ⟨h, -⟩ | ⟨-, h⟩
   ·exact absurd h hk4
   ·exact h
  obtain ⟨hT0, hYt, hFt⟩ : T = 0 ∧ Y ≤ 2 ^ B - 1 ∧ (F = true → Y = 2 ^ B - 1) := by
   rcases hw with ⟨h, -⟩ | ⟨-, h⟩
   ·exact absurd h hk4
   ·exact h
  have hok : okQ (topC B) (Y, T, F) := ⟨hYt, hT0, hFt⟩
  have hwn := o_on K A B
  have hst := o_oo Y T F
  have of1 := o_sf hG (Y, T, F) hw hok m (by omega)
  have of2 := o_sf hG (Y, T, F) hw hok (m + 1) (by omega)
  have ew1 : IntKind.i64.wrap ((m : Int) + 1) = ((m + 1 : Nat) : Int) := by rw [w64 (by omega) (by omega)]; omega
  have hrise := o_sv hG (Y, T, F) hok m
  have hmid := o_sw hG (Y, T, F) hok m
  have hone1 := o_sx hG (Y, T, F) hok m
  have hone2 := o_sx hG (Y, T, F) hok (m + 1)
  obtain ⟨D1, d1, gr1, sz1⟩ := o_sy hG (Y, T, F) hok m (by omega)
  obtain ⟨D2, d2, gr2, sz2⟩ := o_sy hG (Y, T, F) hok (m + 1) (by omega)
  have ga1 := o_pn (l := dstQ K A B (Y, T, F) m) (h := o_ps _ _ _)
  have ga2 := o_pn (l := dstQ K A B (Y, T, F) (m + 1)) (h := o_ps _ _ _)
  have len1 : (atQ (dstQ K A B (Y, T, F) m)).length ≤ 1000000 := Nat.le_trans (o_rv _) (Nat.le_trans (o_s9 (o_ps _ _ m) (o_s8 (c := chP K A) hok m)) (by omega))
  have len2 : (atQ (dstQ K A B (Y, T, F) (m + 1))).length ≤ 1000000 := Nat.le_trans (o_rv _) (Nat.le_trans (o_s9 (o_ps _ _ (m + 1)) (o_s8 (c := chP K A) hok (m + 1))) (by omega))
  have fi1 := fun y1 y3 => o_si (atQ (dstQ K A B (Y, T, F) m)) len1 y1 0 y3
  have fi2 := fun y1 y3 => o_si (atQ (dstQ K A B (Y, T, F) (m + 1))) len2 y1 0 y3
  simp only [ga1, ga2] at fi1 fi2
  generalize dstQ K A B (Y, T, F) m = L1 at *
  generalize dstQ K A B (Y, T, F) (m + 1) = L2 at *
  clear ga1 ga2 len1 len2
  have h15 : topC B ≤ 15 := by have := Nat.pow_le_pow_right (n := 2) (by omega) hG.2.2; unfold topC; omega
  have e0 : (2 : Int) ^ B = (2 ^ B : Nat) := by rw [Int.natCast_pow]; rfl
  have hpb : 0 < 2 ^ B := Nat.two_pow_pos B
  have hB4 : B ≤ 4 := hG.2.2
  have e1 : (2 ^ B : Nat) = topC B + 1 := by unfold topC; omega
  rw [e1] at e0
  generalize topC B = TP at *
  have ewt : IntKind.i64.wrap (((TP + 1 : Nat) : Int)) = ((TP + 1 : Nat) : Int) := w64 (by omega) (by omega)
  have ewt2 : IntKind.i64.wrap (((TP + 1 : Nat) : Int) - 1) = (TP : Int) := by rw [w64 (by omega) (by omega)]; omega
  have q1 : ¬ (B : Int) < 0 := by omega
  have ho := rof0
  have ho1 := rof1
  have rs1 : ∀ i c, i ≤ TP + 1 → Gr D1 (c * 24 ^ m) (accQ L1 TP i) → True := fun _ _ _ _ => trivial
  obtain ⟨Z1, Z2, Z3, hZ⟩ : ∃ Z1 Z2 Z3, rcD 0 = [Z1, Z2, Z3] := ⟨_, _, _, rfl⟩
  rw [o_q8, hZ] at ho
  simp only [parD, stD] at of1 of2 hwn
  refine A01 o_sk ?_; try with_reducible exact tt
  refine CallS.pu (hs1) (R1 (fs hk4 hk4') ?_); try with_reducible exact tt
  refine A10 (fs hk4 hk4') ?_; try with_reducible exact tt
  refine CallS.pu (hwn) (R0 ?_); try with_reducible exact tt
  refine CallS.pu (hst) (R1 hm ?_); try with_reducible exact tt
  refine A10 hm ?_; try with_reducible exact tt
  refine CallS.pu (of1) (R1 (fs hm ew1) ?_); try with_reducible exact tt
  refine A10 ew1 ?_; try with_reducible exact tt
  refine CallS.pu (of2) (R1 ew1 ?_); try with_reducible exact tt
  refine A00 ?_; try with_reducible exact tt
  refine CallS.pu (ho) (R0 ?_); try with_reducible exact tt
  refine CallS.pu (ho) (R0 ?_); try with_reducible exact tt
  have sum1 : ∀ i, i ≤ TP → RS (accQ L1 TP i) 100000 ∧ RS (getQ L1 (TP - i, 0, true)) 100000 ∧ RS (midQ L1 TP i) 100000 ∧ RS (getQ L1 (TP - i, 0, false)) 100000 := fun i hi => by
   have a := o_sz gr1 TP i
   have z : ∀ c, 1 ≤ c → c ≤ 100 → ∀ q, Gr D1 (c * 24 ^ m) q → RS q 100000 := fun c h1 h2 q hq => (hq.le (C := 100 * 24 ^ m) (Nat.mul_le_mul_right _ h2)).rs d1 (Nat.mul_pos (by omega) (Nat.pow_pos (by decide))) sz1
   have g : ∀ t, Gr D1 (1 * 24 ^ m) (getQ L1 t) := fun t => by rw [Nat.one_mul]; exact gr1 t
   have mm : Gr D1 ((2 * i + 1) * 24 ^ m) (midQ L1 TP i) := by rw [Nat.add_mul]; exact a.add (g _)
   refine ⟨(a.le (C := 100 * 24 ^ m) (Nat.mul_le_mul_right _ (by omega))).rs d1 (Nat.mul_pos (by omega) (Nat.pow_pos (by decide))) sz1, z 1 (by omega) (by omega) _ (g _), z _ (by omega) (by omega) _ mm, z 1 (by omega) (by omega) _ (g _)⟩
  have sum2 : ∀ i, i ≤ TP → RS (accQ L2 TP i) 100000 ∧ RS (getQ L2 (TP - i, 0, true)) 100000 ∧ RS (midQ L2 TP i) 100000 ∧ RS (getQ L2 (TP - i, 0, false)) 100000 := fun i hi => by
   have a := o_sz gr2 TP i
   have z : ∀ c, 1 ≤ c → c ≤ 100 → ∀ q, Gr D2 (c * 24 ^ (m + 1)) q → RS q 100000 := fun c h1 h2 q hq => (hq.le (C := 100 * 24 ^ (m + 1)) (Nat.mul_le_mul_right _ h2)).rs d2 (Nat.mul_pos (by omega) (Nat.pow_pos (by decide))) sz2
   have g : ∀ t, Gr D2 (1 * 24 ^ (m + 1)) (getQ L2 t) := fun t => by rw [Nat.one_mul]; exact gr2 t
   have mm : Gr D2 ((2 * i + 1) * 24 ^ (m + 1)) (midQ L2 TP i) := by rw [Nat.add_mul]; exact a.add (g _)
   refine ⟨(a.le (C := 100 * 24 ^ (m + 1)) (Nat.mul_le_mul_right _ (by omega))).rs d2 (Nat.mul_pos (by omega) (Nat.pow_pos (by decide))) sz2, z 1 (by omega) (by omega) _ (g _), z _ (by omega) (by omega) _ mm, z 1 (by omega) (by omega) _ (g _)⟩
  have acr1 : ∀ i, i ≤ TP + 1 → RS (accQ L1 TP i) 100000 := fun i hi => ((o_sz gr1 TP i).le (C := 100 * 24 ^ m) (Nat.mul_le_mul_right _ (by omega))).rs d1 (Nat.mul_pos (by omega) (Nat.pow_pos (by decide))) sz1
  have acr2 : ∀ i, i ≤ TP + 1 → RS (accQ L2 TP i) 100000 := fun i hi => ((o_sz gr2 TP i).le (C := 100 * 24 ^ (m + 1)) (Nat.mul_le_mul_right _ (by omega))).rs d2 (Nat.mul_pos (by omega) (Nat.pow_pos (by decide))) sz2
  have rs1' : RS (1 : Rat) 100000 := o_qc.le (by omega)
  have rcl : ∀ q, (rcD q).map V.d = [.d ((rcD q).getD 0 default), .d ((rcD q).getD 1 default), .d ((rcD q).getD 2 default)] := fun q => rfl
  have hz1 : accQ L1 TP 0 = 0 := rfl
  have hz2 : accQ L2 TP 0 = 0 := rfl
  refine AW.loopG (α := Nat) (fun i => setS (List.replicate 101 .junk) [(9, .d (.sl (atQ L1).length (spD rcD (atQ L1)))), (11, .d (.sl (atQ L2).length (spD rcD (atQ L2)))), (13, .p 4 0), (14, .p 5 0), (15, .d (.int .i64 ((TP : Int) - (i : Nat))))]) (fun i => [none, none, none, none, some ⟨57, (rcD (accQ L1 TP i)).map .d⟩, some ⟨57, (rcD (accQ L2 TP i)).map .d⟩]) (fun i => i ≤ TP + 1) (fun i => TP + 1 - i) 0 ?_ (Nat.zero_le _) ?_ ?_ ?_
  ·intro i hi; simp
  ·simp [e0]
  ·rw [hz1, hz2, hZ]; simp
  rintro i hi
  by_cases hi2 : i ≤ TP
  ·obtain ⟨x1, x2, x3, x4⟩ := sum1 i hi2
   obtain ⟨y1, y2, y3, y4⟩ := sum2 i hi2
   have nx1 : accQ L1 TP (i + 1) = midQ L1 TP i + getQ L1 (TP - i, 0, false) := rfl
   have nx2 : accQ L2 TP (i + 1) = midQ L2 TP i + getQ L2 (TP - i, 0, false) := rfl
   have cm := o_t0 (hmid i hi2)
   have ca := o_t0 (hrise (i + 1) (by omega))
   have f1 := fi1 (TP - i) true
   have f2 := fi2 (TP - i) true
   have f3 := fi1 (TP - i) false
   have f4 := fi2 (TP - i) false
   have p1 := o_lk _ _ x1 x2
   have p2 := o_lk _ _ y1 y2
   have p3 := o_lk _ _ x3 x4
   have p4 := o_lk _ _ y3 y4
   have hcm := o_lm _ _ x3 y3
   have hca := o_lm (accQ L1 TP (i + 1)) (accQ L2 TP (i + 1)) (acr1 (i + 1) (by omega)) (acr2 (i + 1) (by omega))
   rw [show accQ L1 TP i + getQ L1 (TP - i, 0, true) = midQ L1 TP i from rfl] at p1
   rw [show accQ L2 TP i + getQ L2 (TP - i, 0, true) = midQ L2 TP i from rfl] at p2
   rw [← nx1] at p3
   rw [← nx2] at p4
   obtain ⟨k1, hk1⟩ : ∃ k1, k1 = TP - i := ⟨_, rfl⟩
   have hki : (TP : Int) - (i : Nat) = (k1 : Int) := by omega
   have hk0 : ¬ (k1 : Int) < 0 := by omega
   have ewk : IntKind.i64.wrap ((k1 : Int) - 1) = (TP : Int) - ((i + 1 : Nat) : Int) := by rw [w64 (by omega) (by omega)]; omega
   rw [← hk1] at f1 f2 f3 f4 p1 p2 p3 p4
   rw [hki]
   have gen : ∀ q, ∃ u v z, rcD q = [u, v, z] := fun q => ⟨_, _, _, rfl⟩
   simp only [o_q8] at f1 f2 f3 f4 p1 p2 p3 p4 hcm hca
   obtain ⟨a1, a2, a3, ha⟩ := gen (accQ L1 TP i)
   obtain ⟨b1, b2, b3, hb⟩ := gen (accQ L2 TP i)
   obtain ⟨g1, g2, g3, hg1⟩ := gen (getQ L1 (k1, 0, true))
   obtain ⟨g4, g5, g6, hg2⟩ := gen (getQ L2 (k1, 0, true))
   obtain ⟨g7, g8, g9, hg3⟩ := gen (getQ L1 (k1, 0, false))
   obtain ⟨j1, j2, j3, hg4⟩ := gen (getQ L2 (k1, 0, false))
   obtain ⟨m1, m2, m3, hm1⟩ := gen (midQ L1 TP i)
   obtain ⟨m4, m5, m6, hm2⟩ := gen (midQ L2 TP i)
   obtain ⟨n1, n2, n3, hn1⟩ := gen (accQ L1 TP (i + 1))
   obtain ⟨n4, n5, n6, hn2⟩ := gen (accQ L2 TP (i + 1))
   rw [ha] at p1 ⊢
   rw [hb] at p2 ⊢
   rw [hg1] at f1 p1
   rw [hg2] at f2 p2
   rw [hg3] at f3 p3
   rw [hg4] at f4 p4
   rw [hm1] at p1 p3 hcm
   rw [hm2] at p2 p4 hcm
   rw [hn1] at p3 hca
   rw [hn2] at p4 hca
   simp
   refine A10 hk0 ?_; try with_reducible exact tt
   refine AW.rounds 3 ?_
   refine A00 ?_; try with_reducible exact tt
   refine CallS.pu (f1) (R0 ?_); try with_reducible exact tt
   refine CallS.pu (p1) (R0 ?_); try with_reducible exact tt
   refine CallS.pu (f2) (R0 ?_); try with_reducible exact tt
   refine CallS.pu (p2) (R0 ?_); try with_reducible exact tt
   refine A00 ?_; try with_reducible exact tt
   refine CallS.pu (hcm) (R1 cm ?_); try with_reducible exact tt
   refine A00 ?_; try with_reducible exact tt
   refine CallS.pu (f3) (R0 ?_); try with_reducible exact tt
   refine CallS.pu (p3) (R0 ?_); try with_reducible exact tt
   refine CallS.pu (f4) (R0 ?_); try with_reducible exact tt
   refine CallS.pu (p4) (R0 ?_); try with_reducible exact tt
   refine A00 ?_; try with_reducible exact tt
   refine CallS.pu (hca) (R1 ca ?_); try with_reducible exact tt
   refine A10 ewk ?_; try with_reducible exact tt
   refine ⟨i + 1, 0, 0, by omega, by omega, by omega, ?_, ?_⟩
   ·simp [swT, swH, sw, Ob.sw, V.ren, V.rens]
   ·simp [swT, swH, sw, Ob.sw, V.ren, V.rens, hn1, hn2]
  ·have h2 : i = TP + 1 := by omega
   subst h2
   have hc1 := o_lm 1 1 rs1' rs1'
   rw [o_t1] at hc1
   rw [hone1, hone2]
   obtain ⟨O1, O2, O3, hO⟩ : ∃ O1 O2 O3, rcD 1 = [O1, O2, O3] := ⟨_, _, _, rfl⟩
   rw [o_q8, hO] at hc1 ho1
   rw [hO]
   have hneg : (TP : Int) - ((TP + 1 : Nat) : Int) = -1 := by omega
   rw [hneg]
   simp
   refine A00 ?_; try with_reducible exact tt
   refine CallS.pu (ho1) (R0 ?_); try with_reducible exact tt
   refine CallS.pu (hc1) (R0 ?_); try with_reducible exact tt
   refine A00 ?_; try with_reducible exact tt
   refine CallS.pu (hc1) (R0 ?_); try with_reducible exact tt
   done
end
end Go.Proofs.YtafdpoibkmhgcaaGreatDoor.Am
namespace Go.Proofs.YtafdpoibkmhgcaaGreatDoor.Am
section
open Go.RowKit

theorem pr_walk {W : World} {k a b y t n : Int} {f : Bool} : Calls Tryz.prog o_6f #[.agg #[.int .i64 k, .int .i64 a, .int .i64 b], .agg #[.int .i64 y, .int .i64 t, .bool f], .int .i64 n] W (fun e W' => e = .returned (.bool true) ∧ Same W W') :=
 law_walk o_6h (o_t2 k a b y t f n) (V.reps_cons.2 ⟨o_ov (by simp [Value.oneCell']) (by simp [D.reps_cons, D.rep_int]), V.reps_cons.2 ⟨o_ov (by simp [Value.oneCell']) (by simp [D.reps_cons, D.rep_int, D.rep_bool]), V.reps_cons.2 ⟨V.rep_int.2 rfl, V.reps_nil.2 rfl⟩⟩⟩)
end
end Go.Proofs.YtafdpoibkmhgcaaGreatDoor.Am
