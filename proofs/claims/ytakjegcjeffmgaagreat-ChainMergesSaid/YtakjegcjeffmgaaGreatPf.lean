/- Parts of the proof: Chain8, ChainA, ChainM, ChainB, ChainC, ChainD, ChainE, Chain9, ChainF. -/
import Derived.Test.YtakjegcjeffmgaaGreatPe
namespace Go.Proofs.YtakjegcjeffmgaaGreat.Am
section
open Go.RowKit
set_option maxRecDepth 100000
set_option linter.unusedSimpArgs false
set_option linter.unusedVariables false

theorem halfR_le {cs : List Bool} : ∀ (k p : Nat) (dd : Bool), p ≤ cs.length → (halfR cs k p dd).2.2.1 ≤ cs.length
  | 0, p, dd, h => h
  | k + 1, p, dd, h => by
    rw [halfR]
    split
    · exact halfR_le k _ _ (flipP_le h)
    · exact flipP_le h
theorem powerR_le {cs : List Bool} {a q : Nat} : ∀ (k p : Nat) (dd : Bool), p ≤ cs.length → (powerR cs a q k p dd).2.2.1 ≤ cs.length
  | 0, p, dd, h => h
  | k + 1, p, dd, h => by
    rw [powerR]
    split
    · exact powerR_le k _ _ (ratioA_le h)
    · exact ratioA_le h
theorem stepM_le {cs : List Bool} {a k : Int} {p : Nat} {dd : Bool} (h : p ≤ cs.length) : (stepM cs a k p dd).2.2.1 ≤ cs.length := by
  unfold stepM; split
  · exact powerR_le _ _ _ h
  · exact h
theorem stepG_le {cs : List Bool} {a k : Int} {p : Nat} {dd : Bool} (h : p ≤ cs.length) : (stepG cs a k p dd).2.2.1 ≤ cs.length := by
  unfold stepG; split
  · exact halfR_le _ _ _ h
  · exact h
theorem stepYG_le {cs : List Bool} {a k : Int} {p : Nat} {dd : Bool} (h : p ≤ cs.length) : (stepYG cs a k p dd).2.2.1 ≤ cs.length := by
  unfold stepYG; split
  · exact halfR_le _ _ _ h
  · exact h

/-- what the kinds do -/
def stOf (cs : List Bool) (k a : Int) : StepT := fun x p dd => if k = 1 then stepM cs a x p dd else if k = 2 then stepG cs a x p dd else stepYG cs a x p dd
/-- a parameter of a few places that may be -/
def GoodS (k a w : Nat) : Prop := (k = 1 ∧ 1 ≤ a ∧ a ≤ 4 ∨ k = 2 ∧ a ≤ 1 ∨ k = 3 ∧ 1 ≤ a ∧ a ≤ 2) ∧ 1 ≤ w ∧ w ≤ 4

theorem good_check {k a w : Nat} (h : GoodS k a w) : Eqn Tryz.prog n_chain_Param_Check [.d (parD k a w)] [] (.d (.int .i64 0)) [] := by
  obtain ⟨h, h1, h2⟩ := h
  rcases h with ⟨rfl, h3, h4⟩ | ⟨rfl, h3⟩ | ⟨rfl, h3, h4⟩
  · refine check_m a w (by omega) (by omega) h1 (by omega) ?_
    have ha : a = 1 ∨ a = 2 ∨ a = 3 ∨ a = 4 := by omega
    have hw : w = 1 ∨ w = 2 ∨ w = 3 ∨ w = 4 := by omega
    rcases ha with rfl | rfl | rfl | rfl <;> rcases hw with rfl | rfl | rfl | rfl <;> decide
  · exact check_f a w (by omega) h1 (by omega)
  · exact check_y a w (by omega) (by omega) h1 (by omega)

theorem good_step {k a w : Nat} (h : GoodS k a w) (cs : List Bool) (hn : cs.length ≤ 4000000) : ∃ ti d g, StepOf cs ti d g (stOf cs k a) ∧ kindD k a = .ifc ti d := by
  obtain ⟨h, -⟩ := h
  rcases h with ⟨rfl, -⟩ | ⟨rfl, -⟩ | ⟨rfl, -⟩
  · exact ⟨_, _, _, ⟨meth_mstep, fun x p dd hp => cmstep_ok cs a x p dd hp hn, fun x p dd hp => stepM_le hp⟩, rfl⟩
  · exact ⟨_, _, _, ⟨meth_fstep, fun x p dd hp => cfstep_ok cs a x p dd hp hn, fun x p dd hp => stepG_le hp⟩, rfl⟩
  · exact ⟨_, _, _, ⟨meth_ystep, fun x p dd hp => cystep_ok cs a x p dd hp hn, fun x p dd hp => stepYG_le hp⟩, rfl⟩

theorem add_good {k a w : Nat} (h : GoodS k a w) (cs : List Bool) (hcs : cs.length ≤ 4000000) (x : Nat) (hx : x ≤ 2 ^ w - 1) (f : Bool) (n : Nat) (hn : n ≤ 1048576) (p : Nat) (dd : Bool) (hp : p ≤ cs.length) (S : Int × Nat × Bool × Nat × Bool) (hS : S = addL (stOf cs k a) (2 ^ w - 1) n x f p dd) :
    Eqn Tryz.prog n_chain_Param_Add [.d (parD k a w), .p 0 0, .d (.agg [.int .i64 x, .bool f]), .d (.int .i64 n)] [tapeO cs p dd] (.tup [.d (.agg [.int .i64 (if S.1 = 0 then S.2.1 else x : Nat), .bool (if S.1 = 0 then S.2.2.1 else f)]), .d (.int .i64 S.1)]) [tapeO cs S.2.2.2.1 S.2.2.2.2] := by
  obtain ⟨ti, d, g, h1, h2⟩ := good_step h cs hcs
  exact add_start cs k a w (by have := h.2; omega) ti d g _ h1 h2 (good_check h) x hx f n hn p dd hp S hS

theorem tmod_b (k m : Int) (hm : 0 < m) : -m < k.tmod m ∧ k.tmod m < m := by
  refine ⟨?_, Int.tmod_lt_of_pos _ hm⟩
  rcases (by omega : k < 0 ∨ 0 ≤ k) with h | h
  · have := Int.tmod_lt_of_pos (-k) hm
    rw [Int.neg_tmod] at this
    omega
  · have := Int.tmod_nonneg m h
    omega
theorem tmod_r (k m : Int) (hm : 0 < m) (hm2 : m ≤ 4611686018427387904) : IntKind.i64.wrap (k.tmod m + m) = k.tmod m + m ∧ ∃ r : Nat, (k.tmod m + m).tmod m = r ∧ r < m ∧ IntKind.i64.wrap (1 + (r : Int)) = ((1 + r : Nat) : Int) := by
  have h := tmod_b k m hm
  have h0 : 0 ≤ k.tmod m + m := by omega
  refine ⟨w64 (by omega) (by omega), ?_⟩
  have h1 := Int.tmod_nonneg m h0
  have h2 := Int.tmod_lt_of_pos (k.tmod m + m) hm
  obtain ⟨r, hr⟩ : ∃ r : Nat, (k.tmod m + m).tmod m = r := ⟨((k.tmod m + m).tmod m).toNat, by omega⟩
  exact ⟨r, hr, by omega, by rw [w64 (by omega) (by omega)]; omega⟩
theorem and_b (k : Int) (m : Nat) (hm : m ≤ 4611686018427387904) : ∃ n : Nat, bits BinOp.and IntKind.i64 k (m : Int) = n ∧ n ≤ m ∧ IntKind.i64.wrap (1 + (n : Int)) = ((1 + n : Nat) : Int) := by
  refine ⟨(BitVec.ofInt 64 k).toNat &&& m, ?_, Nat.and_le_right, ?_⟩
  · have hm' : m % 2 ^ 64 = m := Nat.mod_eq_of_lt (by omega)
    have hle : (BitVec.ofInt 64 k).toNat &&& m ≤ m := Nat.and_le_right
    show IntKind.i64.wrap (((BitVec.ofInt 64 k) &&& (BitVec.ofInt 64 (m : Int))).toNat : Int) = _
    rw [BitVec.toNat_and, BitVec.ofInt_natCast, BitVec.toNat_ofNat, hm']
    generalize (BitVec.ofInt 64 k).toNat &&& m = n at *
    exact w64 (by omega) (by omega)
  · have hle : (BitVec.ofInt 64 k).toNat &&& m ≤ m := Nat.and_le_right
    generalize (BitVec.ofInt 64 k).toNat &&& m = n at *
    rw [w64 (by omega) (by omega)]; omega

theorem csmall_ok (k a w : Int) : ∃ K A W : Nat, GoodS K A W ∧ Eqn Tryz.prog n_Tlaw15_small [.d (parD k a w), .d (.int .i64 4)] [] (.d (parD K A W)) [] := by
  obtain ⟨e1, K, e2, hK, e3⟩ := tmod_r k 3 (by omega) (by omega)
  obtain ⟨e4, W, e5, hW, e6⟩ := tmod_r w 4 (by omega) (by omega)
  obtain ⟨A1, a1, a2, a3⟩ := and_b a 3 (by omega)
  obtain ⟨A2, a4, a5, a6⟩ := and_b a 1 (by omega)
  replace a1 : bits BinOp.and IntKind.i64 a 3 = A1 := a1
  replace a4 : bits BinOp.and IntKind.i64 a 1 = A2 := a4
  have main : ∀ A : Nat, (K = 0 ∧ A = 1 + A1 ∨ K = 1 ∧ A = A2 ∨ K = 2 ∧ A = 1 + A2) → Eqn Tryz.prog n_Tlaw15_small [.d (parD k a w), .d (.int .i64 4)] [] (.d (parD (1 + K : Nat) A (1 + W : Nat))) [] := by
    intro A hA
    refine Eqn.pure r_Tlaw15_small (plain_d _) ?_
    simp only [c_Tlaw15_small, parD]
    rcases hA with ⟨rfl, rfl⟩ | ⟨rfl, rfl⟩ | ⟨rfl, rfl⟩
    · repeat (first | refine AW.seq ?_ | refine AW.block ?_ | (refine AW.reg mix ?_; (simp (implicitDefEqProofs := false) [↓callI, vopsN, vopsG, ↓step_slice, ↓Am.A.step, ↓binInt, ↓binStr, vopsE0, vopsE1, -vops, e1, e2, e3, e4, e5, e6]; try simp (disch := omega) only [w64, wu64])) | (refine need.of (by first | omega | kernel_rfl) ?_) | (refine AW.skip ?_; (try simp (implicitDefEqProofs := false) [↓callI, vopsN, vopsG, ↓step_slice, ↓Am.A.step, ↓binInt, ↓binStr, vopsE0, vopsE1, -vops, e1, e2, e3, e4, e5, e6])) | (refine AW.ret ?_; (try simp (implicitDefEqProofs := false) [↓callI, vopsN, vopsG, ↓step_slice, ↓Am.A.step, ↓binInt, ↓binStr, vopsE0, vopsE1, -vops, e1, e2, e3, e4, e5, e6])) | (refine AW.exit ?_; (try simp (implicitDefEqProofs := false) [↓callI, vopsN, vopsG, ↓step_slice, ↓Am.A.step, ↓binInt, ↓binStr, vopsE0, vopsE1, -vops, e1, e2, e3, e4, e5, e6])))
      refine AW.cond rfl (fun h => ?_) (fun h => ?_)
      · repeat (first | refine AW.seq ?_ | refine AW.block ?_ | (refine AW.reg mix ?_; (simp (implicitDefEqProofs := false) [↓callI, vopsN, vopsG, ↓step_slice, ↓Am.A.step, ↓binInt, ↓binStr, vopsE0, vopsE1, -vops, a1, a3]; try simp (disch := omega) only [w64, wu64])) | (refine need.of (by first | omega | kernel_rfl) ?_) | (refine AW.skip ?_; (try simp (implicitDefEqProofs := false) [↓callI, vopsN, vopsG, ↓step_slice, ↓Am.A.step, ↓binInt, ↓binStr, vopsE0, vopsE1, -vops, a1, a3])) | (refine AW.ret ?_; (try simp (implicitDefEqProofs := false) [↓callI, vopsN, vopsG, ↓step_slice, ↓Am.A.step, ↓binInt, ↓binStr, vopsE0, vopsE1, -vops, a1, a3])) | (refine AW.exit ?_; (try simp (implicitDefEqProofs := false) [↓callI, vopsN, vopsG, ↓step_slice, ↓Am.A.step, ↓binInt, ↓binStr, vopsE0, vopsE1, -vops, a1, a3])))
      · simp at h
    · repeat (first | refine AW.seq ?_ | refine AW.block ?_ | (refine AW.reg mix ?_; (simp (implicitDefEqProofs := false) [↓callI, vopsN, vopsG, ↓step_slice, ↓Am.A.step, ↓binInt, ↓binStr, vopsE0, vopsE1, -vops, e1, e2, e3, e4, e5, e6]; try simp (disch := omega) only [w64, wu64])) | (refine need.of (by first | omega | kernel_rfl) ?_) | (refine AW.skip ?_; (try simp (implicitDefEqProofs := false) [↓callI, vopsN, vopsG, ↓step_slice, ↓Am.A.step, ↓binInt, ↓binStr, vopsE0, vopsE1, -vops, e1, e2, e3, e4, e5, e6])) | (refine AW.ret ?_; (try simp (implicitDefEqProofs := false) [↓callI, vopsN, vopsG, ↓step_slice, ↓Am.A.step, ↓binInt, ↓binStr, vopsE0, vopsE1, -vops, e1, e2, e3, e4, e5, e6])) | (refine AW.exit ?_; (try simp (implicitDefEqProofs := false) [↓callI, vopsN, vopsG, ↓step_slice, ↓Am.A.step, ↓binInt, ↓binStr, vopsE0, vopsE1, -vops, e1, e2, e3, e4, e5, e6])))
      refine AW.cond rfl (fun h => ?_) (fun h => ?_)
      · simp at h
      repeat (first | refine AW.seq ?_ | refine AW.block ?_ | (refine AW.reg mix ?_; (simp (implicitDefEqProofs := false) [↓callI, vopsN, vopsG, ↓step_slice, ↓Am.A.step, ↓binInt, ↓binStr, vopsE0, vopsE1, -vops]; try simp (disch := omega) only [w64, wu64])) | (refine need.of (by first | omega | kernel_rfl) ?_) | (refine AW.skip ?_; (try simp (implicitDefEqProofs := false) [↓callI, vopsN, vopsG, ↓step_slice, ↓Am.A.step, ↓binInt, ↓binStr, vopsE0, vopsE1, -vops])) | (refine AW.ret ?_; (try simp (implicitDefEqProofs := false) [↓callI, vopsN, vopsG, ↓step_slice, ↓Am.A.step, ↓binInt, ↓binStr, vopsE0, vopsE1, -vops])) | (refine AW.exit ?_; (try simp (implicitDefEqProofs := false) [↓callI, vopsN, vopsG, ↓step_slice, ↓Am.A.step, ↓binInt, ↓binStr, vopsE0, vopsE1, -vops])))
      refine AW.cond rfl (fun h => ?_) (fun h => ?_)
      · repeat (first | refine AW.seq ?_ | refine AW.block ?_ | (refine AW.reg mix ?_; (simp (implicitDefEqProofs := false) [↓callI, vopsN, vopsG, ↓step_slice, ↓Am.A.step, ↓binInt, ↓binStr, vopsE0, vopsE1, -vops, a4]; try simp (disch := omega) only [w64, wu64])) | (refine need.of (by first | omega | kernel_rfl) ?_) | (refine AW.skip ?_; (try simp (implicitDefEqProofs := false) [↓callI, vopsN, vopsG, ↓step_slice, ↓Am.A.step, ↓binInt, ↓binStr, vopsE0, vopsE1, -vops, a4])) | (refine AW.ret ?_; (try simp (implicitDefEqProofs := false) [↓callI, vopsN, vopsG, ↓step_slice, ↓Am.A.step, ↓binInt, ↓binStr, vopsE0, vopsE1, -vops, a4])) | (refine AW.exit ?_; (try simp (implicitDefEqProofs := false) [↓callI, vopsN, vopsG, ↓step_slice, ↓Am.A.step, ↓binInt, ↓binStr, vopsE0, vopsE1, -vops, a4])))
      · simp at h
    · repeat (first | refine AW.seq ?_ | refine AW.block ?_ | (refine AW.reg mix ?_; (simp (implicitDefEqProofs := false) [↓callI, vopsN, vopsG, ↓step_slice, ↓Am.A.step, ↓binInt, ↓binStr, vopsE0, vopsE1, -vops, e1, e2, e3, e4, e5, e6]; try simp (disch := omega) only [w64, wu64])) | (refine need.of (by first | omega | kernel_rfl) ?_) | (refine AW.skip ?_; (try simp (implicitDefEqProofs := false) [↓callI, vopsN, vopsG, ↓step_slice, ↓Am.A.step, ↓binInt, ↓binStr, vopsE0, vopsE1, -vops, e1, e2, e3, e4, e5, e6])) | (refine AW.ret ?_; (try simp (implicitDefEqProofs := false) [↓callI, vopsN, vopsG, ↓step_slice, ↓Am.A.step, ↓binInt, ↓binStr, vopsE0, vopsE1, -vops, e1, e2, e3, e4, e5, e6])) | (refine AW.exit ?_; (try simp (implicitDefEqProofs := false) [↓callI, vopsN, vopsG, ↓step_slice, ↓Am.A.step, ↓binInt, ↓binStr, vopsE0, vopsE1, -vops, e1, e2, e3, e4, e5, e6])))
      refine AW.cond rfl (fun h => ?_) (fun h => ?_)
      · simp at h
      repeat (first | refine AW.seq ?_ | refine AW.block ?_ | (refine AW.reg mix ?_; (simp (implicitDefEqProofs := false) [↓callI, vopsN, vopsG, ↓step_slice, ↓Am.A.step, ↓binInt, ↓binStr, vopsE0, vopsE1, -vops]; try simp (disch := omega) only [w64, wu64])) | (refine need.of (by first | omega | kernel_rfl) ?_) | (refine AW.skip ?_; (try simp (implicitDefEqProofs := false) [↓callI, vopsN, vopsG, ↓step_slice, ↓Am.A.step, ↓binInt, ↓binStr, vopsE0, vopsE1, -vops])) | (refine AW.ret ?_; (try simp (implicitDefEqProofs := false) [↓callI, vopsN, vopsG, ↓step_slice, ↓Am.A.step, ↓binInt, ↓binStr, vopsE0, vopsE1, -vops])) | (refine AW.exit ?_; (try simp (implicitDefEqProofs := false) [↓callI, vopsN, vopsG, ↓step_slice, ↓Am.A.step, ↓binInt, ↓binStr, vopsE0, vopsE1, -vops])))
      refine AW.cond rfl (fun h => ?_) (fun h => ?_)
      · simp at h
      · repeat (first | refine AW.seq ?_ | refine AW.block ?_ | (refine AW.reg mix ?_; (simp (implicitDefEqProofs := false) [↓callI, vopsN, vopsG, ↓step_slice, ↓Am.A.step, ↓binInt, ↓binStr, vopsE0, vopsE1, -vops, a4, a6]; try simp (disch := omega) only [w64, wu64])) | (refine need.of (by first | omega | kernel_rfl) ?_) | (refine AW.skip ?_; (try simp (implicitDefEqProofs := false) [↓callI, vopsN, vopsG, ↓step_slice, ↓Am.A.step, ↓binInt, ↓binStr, vopsE0, vopsE1, -vops, a4, a6])) | (refine AW.ret ?_; (try simp (implicitDefEqProofs := false) [↓callI, vopsN, vopsG, ↓step_slice, ↓Am.A.step, ↓binInt, ↓binStr, vopsE0, vopsE1, -vops, a4, a6])) | (refine AW.exit ?_; (try simp (implicitDefEqProofs := false) [↓callI, vopsN, vopsG, ↓step_slice, ↓Am.A.step, ↓binInt, ↓binStr, vopsE0, vopsE1, -vops, a4, a6])))
  have hK' : K = 0 ∨ K = 1 ∨ K = 2 := by omega
  rcases hK' with rfl | rfl | rfl
  · exact ⟨_, _, _, ⟨by omega, by omega, by omega⟩, main (1 + A1) (by omega)⟩
  · exact ⟨_, _, _, ⟨by omega, by omega, by omega⟩, main A2 (by omega)⟩
  · exact ⟨_, _, _, ⟨by omega, by omega, by omega⟩, main (1 + A2) (by omega)⟩

theorem own_ok (k a w : Int) : Eqn Tryz.prog n_Tlaw15_Own [.d (parD k a w)] [] (.d (parD k a w)) [] := by
  refine Eqn.pure r_Tlaw15_Own (plain_d _) ?_
  simp only [c_Tlaw15_Own, parD]
  repeat (first | refine AW.seq ?_ | refine AW.block ?_ | (refine AW.reg mix ?_; (simp (implicitDefEqProofs := false) [↓callI, vopsN, vopsG, ↓step_slice, ↓Am.A.step, ↓binInt, ↓binStr, vopsE0, vopsE1, -vops]; try simp (disch := omega) only [w64, wu64])) | (refine need.of (by first | omega | kernel_rfl) ?_) | (refine AW.skip ?_; (try simp (implicitDefEqProofs := false) [↓callI, vopsN, vopsG, ↓step_slice, ↓Am.A.step, ↓binInt, ↓binStr, vopsE0, vopsE1, -vops])) | (refine AW.ret ?_; (try simp (implicitDefEqProofs := false) [↓callI, vopsN, vopsG, ↓step_slice, ↓Am.A.step, ↓binInt, ↓binStr, vopsE0, vopsE1, -vops])) | (refine AW.exit ?_; (try simp (implicitDefEqProofs := false) [↓callI, vopsN, vopsG, ↓step_slice, ↓Am.A.step, ↓binInt, ↓binStr, vopsE0, vopsE1, -vops])))

theorem rtop_ok (k a : Int) (w : Nat) (hw : w ≤ 60) : Eqn Tryz.prog n_Tref15_Top [.d (parD k a w)] [] (.d (.int .i64 (2 ^ w - 1 : Nat))) [] := by
  refine Eqn.pure r_Tref15_Top (plain_d _) ?_
  simp only [c_Tref15_Top, parD]
  have hs := rsize_ok w hw
  have h1 := p2_pos w
  have h2 := p2_le hw
  have e : 2 ^ w = p2 w := rfl
  rw [e]
  have h3 : p2 60 = 1152921504606846976 := by decide
  generalize p2 60 = z at *
  generalize p2 w = v at *
  have ew : IntKind.i64.wrap ((v : Int) - 1) = ((v - 1 : Nat) : Int) := by rw [w64 (by omega) (by omega)]; omega
  repeat (first | refine AW.seq ?_ | refine AW.block ?_ | (refine AW.reg mix ?_; (simp (implicitDefEqProofs := false) [↓callI, vopsN, vopsG, ↓step_slice, ↓Am.A.step, ↓binInt, ↓binStr, vopsE0, vopsE1, -vops]; try simp (disch := omega) only [w64, wu64])) | (refine need.of (by first | omega | kernel_rfl) ?_) | (refine AW.skip ?_; (try simp (implicitDefEqProofs := false) [↓callI, vopsN, vopsG, ↓step_slice, ↓Am.A.step, ↓binInt, ↓binStr, vopsE0, vopsE1, -vops])) | (refine AW.ret ?_; (try simp (implicitDefEqProofs := false) [↓callI, vopsN, vopsG, ↓step_slice, ↓Am.A.step, ↓binInt, ↓binStr, vopsE0, vopsE1, -vops])) | (refine AW.exit ?_; (try simp (implicitDefEqProofs := false) [↓callI, vopsN, vopsG, ↓step_slice, ↓Am.A.step, ↓binInt, ↓binStr, vopsE0, vopsE1, -vops])))
  refine CallS.pure (hs) (by first | exact plain_d _ | exact plain_tup2 _ _ | exact plain_tup3 _ _ _) rfl (fun _ => rfl) (Subs.refl _) ?_
  (try simp (implicitDefEqProofs := false) [↓callI, vopsN, vopsG, ↓step_slice, ↓Am.A.step, ↓binInt, ↓binStr, vopsE0, vopsE1, -vops, ew]; try simp (disch := omega) only [w64, wu64])
  repeat (first | refine AW.seq ?_ | refine AW.block ?_ | (refine AW.reg mix ?_; (simp (implicitDefEqProofs := false) [↓callI, vopsN, vopsG, ↓step_slice, ↓Am.A.step, ↓binInt, ↓binStr, vopsE0, vopsE1, -vops, ew]; try simp (disch := omega) only [w64, wu64])) | (refine need.of (by first | omega | kernel_rfl) ?_) | (refine AW.skip ?_; (try simp (implicitDefEqProofs := false) [↓callI, vopsN, vopsG, ↓step_slice, ↓Am.A.step, ↓binInt, ↓binStr, vopsE0, vopsE1, -vops, ew])) | (refine AW.ret ?_; (try simp (implicitDefEqProofs := false) [↓callI, vopsN, vopsG, ↓step_slice, ↓Am.A.step, ↓binInt, ↓binStr, vopsE0, vopsE1, -vops, ew])) | (refine AW.exit ?_; (try simp (implicitDefEqProofs := false) [↓callI, vopsN, vopsG, ↓step_slice, ↓Am.A.step, ↓binInt, ↓binStr, vopsE0, vopsE1, -vops, ew])))
end
end Go.Proofs.YtakjegcjeffmgaaGreat.Am
namespace Go.Proofs.YtakjegcjeffmgaaGreat.Am
section
open Go.RowKit
set_option maxRecDepth 100000
set_option linter.unusedSimpArgs false
set_option linter.unusedVariables false

/-- what a step at r is at x, of a kind -/
abbrev AgT := Nat → Nat → Nat → Bool → Bool × Int × Nat × Bool
def agOf (cs : List Bool) (k a : Nat) : AgT := fun x r p dd => if k = 1 then powerR cs a (a + 1) (x - r) p dd else if k = 2 then halfR cs (x / 2 ^ a - r / 2 ^ a) p dd else halfR cs ((placeY a x).shift - (placeY a r).shift) p dd

theorem all2 {d k r : Nat} (hd : 1 ≤ d ∧ d ≤ 4096) (hk : k ≤ 1023) (hr : r ≤ 1023) : wrongM d [(k : Int), (r : Int)] = 0 := by
  unfold wrongM
  rw [if_pos (by omega)]
  simp [okK]; omega
theorem magain_g (cs : List Bool) (a k r p : Nat) (dd : Bool) (h1 : 1 ≤ a) (h2 : a ≤ 4096) (hk : k ≤ 1023) (hr : r ≤ 1023) (hp : p ≤ cs.length) (hn : cs.length ≤ 4000000) :
    Eqn Tryz.prog n_morris_Again [.p 0 0, .d (.int .i64 a), .d (.int .i64 k), .d (.int .i64 r)] [tapeO cs p dd] (.tup [.d (.bool (powerR cs a (a + 1) (k - r) p dd).1), .d (.int .i64 (powerR cs a (a + 1) (k - r) p dd).2.1)]) [tapeO cs (powerR cs a (a + 1) (k - r) p dd).2.2.1 (powerR cs a (a + 1) (k - r) p dd).2.2.2] := by
  refine Eqn.obj1 r_morris_Again (plain_tup2 _ _) ⟨rfl, fun _ => rfl⟩ ?_
  simp only [c_morris_Again]
  have hw := mwrong_ok a [(k : Int), (r : Int)] (by simp)
  rw [all2 ⟨h1, h2⟩ hk hr] at hw
  have hh := mpower_ok cs a ((k : Int) - r) p dd h1 h2 (by omega) hp hn
  rw [show ((k : Int) - r).toNat = k - r by omega] at hh
  generalize powerR cs a (a + 1) (k - r) p dd = R at *
  obtain ⟨R1, R2, R3, R4⟩ := R
  simp only at hh ⊢
  have ew : IntKind.i64.wrap ((k : Int) - r) = (k : Int) - r := w64 (by omega) (by omega)
  repeat (first | refine AW.seq ?_ | refine AW.block ?_ | (refine AW.reg mix ?_; (simp (implicitDefEqProofs := false) [↓callI, vopsN, vopsG, ↓step_slice, ↓Am.A.step, ↓binInt, ↓binStr, vopsE0, vopsE1, -vops, -Bool.exists_bool]; try simp (disch := omega) only [w64, wu64])) | (refine need.of (by first | omega | kernel_rfl) ?_) | (refine AW.skip ?_; (try simp (implicitDefEqProofs := false) [↓callI, vopsN, vopsG, ↓step_slice, ↓Am.A.step, ↓binInt, ↓binStr, vopsE0, vopsE1, -vops, -Bool.exists_bool])) | (refine AW.ret ?_; (try simp (implicitDefEqProofs := false) [↓callI, vopsN, vopsG, ↓step_slice, ↓Am.A.step, ↓binInt, ↓binStr, vopsE0, vopsE1, -vops, -Bool.exists_bool])) | (refine AW.exit ?_; (try simp (implicitDefEqProofs := false) [↓callI, vopsN, vopsG, ↓step_slice, ↓Am.A.step, ↓binInt, ↓binStr, vopsE0, vopsE1, -vops, -Bool.exists_bool])))
  refine CallS.pureF 1 1 ⟨3, _⟩ [.int .i64 k, .int .i64 r] (hw) (by first | exact plain_d _ | exact plain_tup2 _ _ | exact plain_tup3 _ _ _) rfl (fun _ => rfl) (by rfl) (by simp) (Subs.of ?_) ?_
  focus first | rfl | (simp [-Bool.exists_bool]; done) | skip
  rotate_left
  (try simp (implicitDefEqProofs := false) [↓callI, vopsN, vopsG, ↓step_slice, ↓Am.A.step, ↓binInt, ↓binStr, vopsE0, vopsE1, -vops, -Bool.exists_bool]; try simp (disch := omega) only [w64, wu64])
  repeat (first | refine AW.seq ?_ | refine AW.block ?_ | (refine AW.reg mix ?_; (simp (implicitDefEqProofs := false) [↓callI, vopsN, vopsG, ↓step_slice, ↓Am.A.step, ↓binInt, ↓binStr, vopsE0, vopsE1, -vops, -Bool.exists_bool]; try simp (disch := omega) only [w64, wu64])) | (refine need.of (by first | omega | kernel_rfl) ?_) | (refine AW.skip ?_; (try simp (implicitDefEqProofs := false) [↓callI, vopsN, vopsG, ↓step_slice, ↓Am.A.step, ↓binInt, ↓binStr, vopsE0, vopsE1, -vops, -Bool.exists_bool])) | (refine AW.ret ?_; (try simp (implicitDefEqProofs := false) [↓callI, vopsN, vopsG, ↓step_slice, ↓Am.A.step, ↓binInt, ↓binStr, vopsE0, vopsE1, -vops, -Bool.exists_bool])) | (refine AW.exit ?_; (try simp (implicitDefEqProofs := false) [↓callI, vopsN, vopsG, ↓step_slice, ↓Am.A.step, ↓binInt, ↓binStr, vopsE0, vopsE1, -vops, -Bool.exists_bool])))
  refine AW.cond rfl (fun h => ?_) (fun h => ?_)
  · simp at h
  repeat (first | refine AW.seq ?_ | refine AW.block ?_ | (refine AW.reg mix ?_; (simp (implicitDefEqProofs := false) [↓callI, vopsN, vopsG, ↓step_slice, ↓Am.A.step, ↓binInt, ↓binStr, vopsE0, vopsE1, -vops, ew, -Bool.exists_bool]; try simp (disch := omega) only [w64, wu64])) | (refine need.of (by first | omega | kernel_rfl) ?_) | (refine AW.skip ?_; (try simp (implicitDefEqProofs := false) [↓callI, vopsN, vopsG, ↓step_slice, ↓Am.A.step, ↓binInt, ↓binStr, vopsE0, vopsE1, -vops, ew, -Bool.exists_bool])) | (refine AW.ret ?_; (try simp (implicitDefEqProofs := false) [↓callI, vopsN, vopsG, ↓step_slice, ↓Am.A.step, ↓binInt, ↓binStr, vopsE0, vopsE1, -vops, ew, -Bool.exists_bool])) | (refine AW.exit ?_; (try simp (implicitDefEqProofs := false) [↓callI, vopsN, vopsG, ↓step_slice, ↓Am.A.step, ↓binInt, ↓binStr, vopsE0, vopsE1, -vops, ew, -Bool.exists_bool])))
  try simp only [ew]
  refine CallS.obj1 0 (hh) (by first | exact plain_d _ | exact plain_tup2 _ _ | exact plain_tup3 _ _ _) ⟨rfl, fun _ => rfl⟩ ⟨rfl, fun _ => rfl⟩ rfl (by rfl) (Subs.of (by simp)) ?_
  (try simp (implicitDefEqProofs := false) [↓callI, vopsN, vopsG, ↓step_slice, ↓Am.A.step, ↓binInt, ↓binStr, vopsE0, vopsE1, -vops, -Bool.exists_bool]; try simp (disch := omega) only [w64, wu64])
  repeat (first | refine AW.seq ?_ | refine AW.block ?_ | (refine AW.reg mix ?_; (simp (implicitDefEqProofs := false) [↓callI, vopsN, vopsG, ↓step_slice, ↓Am.A.step, ↓binInt, ↓binStr, vopsE0, vopsE1, -vops, -Bool.exists_bool]; try simp (disch := omega) only [w64, wu64])) | (refine need.of (by first | omega | kernel_rfl) ?_) | (refine AW.skip ?_; (try simp (implicitDefEqProofs := false) [↓callI, vopsN, vopsG, ↓step_slice, ↓Am.A.step, ↓binInt, ↓binStr, vopsE0, vopsE1, -vops, -Bool.exists_bool])) | (refine AW.ret ?_; (try simp (implicitDefEqProofs := false) [↓callI, vopsN, vopsG, ↓step_slice, ↓Am.A.step, ↓binInt, ↓binStr, vopsE0, vopsE1, -vops, -Bool.exists_bool])) | (refine AW.exit ?_; (try simp (implicitDefEqProofs := false) [↓callI, vopsN, vopsG, ↓step_slice, ↓Am.A.step, ↓binInt, ↓binStr, vopsE0, vopsE1, -vops, -Bool.exists_bool])))

theorem all2f {d k r : Nat} (hd : d ≤ 8) (hk : k ≤ 1023) (hr : r ≤ 1023) : wrongZ d [(k : Int), (r : Int)] = 0 := by
  unfold wrongZ
  rw [if_pos (by omega)]
  simp [okK]; omega
theorem fagain_g (cs : List Bool) (d k j p : Nat) (dd : Bool) (h1 : d ≤ 8) (hk : k ≤ 1023) (hr : j ≤ 1023) (hp0 : p ≤ cs.length) (hn : cs.length ≤ 4000000) (R : Bool × Int × Nat × Bool) (hR : R = halfR cs (k / 2 ^ d - j / 2 ^ d) p dd) :
    Eqn Tryz.prog n_float_Again [.p 0 0, .d (.int .i64 d), .d (.int .i64 k), .d (.int .i64 j)] [tapeO cs p dd] (.tup [.d (.bool R.1), .d (.int .i64 R.2.1)]) [tapeO cs R.2.2.1 R.2.2.2] := by
  refine Eqn.obj1 r_float_Again (plain_tup2 _ _) ⟨rfl, fun _ => rfl⟩ ?_
  simp only [c_float_Again]
  have hw := wrong2_ok d k j
  rw [all2f h1 hk hr] at hw
  have hq := parts_ok d k (by omega) (by omega)
  have hq' := parts_ok d j (by omega) (by omega)
  have hu : k / 2 ^ d ≤ k := Nat.div_le_self _ _
  have hu' : j / 2 ^ d ≤ j := Nat.div_le_self _ _
  generalize k / 2 ^ d = u at *
  generalize j / 2 ^ d = u' at *
  generalize partV d k = v at hq
  generalize partV d j = v' at hq'
  have ew : IntKind.i64.wrap ((u : Int) - u') = (u : Int) - u' := w64 (by omega) (by omega)
  have hh := half_ok cs p dd ((u : Int) - u') (by omega) hp0 hn
  rw [show ((u : Int) - u').toNat = u - u' by omega, ← hR] at hh
  clear hR
  obtain ⟨r1, r2, r3, r4⟩ := R
  simp only at hh ⊢
  repeat (first | refine AW.seq ?_ | refine AW.block ?_ | (refine AW.reg mix ?_; (simp (implicitDefEqProofs := false) [↓callI, vopsN, vopsG, ↓step_slice, ↓Am.A.step, ↓binInt, ↓binStr, vopsE0, vopsE1, -vops, -Bool.exists_bool]; try simp (disch := omega) only [w64, wu64])) | (refine need.of (by first | omega | kernel_rfl) ?_) | (refine AW.skip ?_; (try simp (implicitDefEqProofs := false) [↓callI, vopsN, vopsG, ↓step_slice, ↓Am.A.step, ↓binInt, ↓binStr, vopsE0, vopsE1, -vops, -Bool.exists_bool])) | (refine AW.ret ?_; (try simp (implicitDefEqProofs := false) [↓callI, vopsN, vopsG, ↓step_slice, ↓Am.A.step, ↓binInt, ↓binStr, vopsE0, vopsE1, -vops, -Bool.exists_bool])) | (refine AW.exit ?_; (try simp (implicitDefEqProofs := false) [↓callI, vopsN, vopsG, ↓step_slice, ↓Am.A.step, ↓binInt, ↓binStr, vopsE0, vopsE1, -vops, -Bool.exists_bool])))
  refine CallS.pureF 1 1 ⟨3, _⟩ [.int .i64 k, .int .i64 j] (hw) (by first | exact plain_d _ | exact plain_tup2 _ _ | exact plain_tup3 _ _ _) rfl (fun _ => rfl) (by rfl) (by simp) (Subs.of ?_) ?_
  focus first | rfl | (simp [-Bool.exists_bool]; done) | skip
  rotate_left
  (try simp (implicitDefEqProofs := false) [↓callI, vopsN, vopsG, ↓step_slice, ↓Am.A.step, ↓binInt, ↓binStr, vopsE0, vopsE1, -vops, -Bool.exists_bool]; try simp (disch := omega) only [w64, wu64])
  repeat (first | refine AW.seq ?_ | refine AW.block ?_ | (refine AW.reg mix ?_; (simp (implicitDefEqProofs := false) [↓callI, vopsN, vopsG, ↓step_slice, ↓Am.A.step, ↓binInt, ↓binStr, vopsE0, vopsE1, -vops, -Bool.exists_bool]; try simp (disch := omega) only [w64, wu64])) | (refine need.of (by first | omega | kernel_rfl) ?_) | (refine AW.skip ?_; (try simp (implicitDefEqProofs := false) [↓callI, vopsN, vopsG, ↓step_slice, ↓Am.A.step, ↓binInt, ↓binStr, vopsE0, vopsE1, -vops, -Bool.exists_bool])) | (refine AW.ret ?_; (try simp (implicitDefEqProofs := false) [↓callI, vopsN, vopsG, ↓step_slice, ↓Am.A.step, ↓binInt, ↓binStr, vopsE0, vopsE1, -vops, -Bool.exists_bool])) | (refine AW.exit ?_; (try simp (implicitDefEqProofs := false) [↓callI, vopsN, vopsG, ↓step_slice, ↓Am.A.step, ↓binInt, ↓binStr, vopsE0, vopsE1, -vops, -Bool.exists_bool])))
  refine AW.cond rfl (fun h => ?_) (fun h => ?_)
  · simp at h
  repeat (first | refine AW.seq ?_ | refine AW.block ?_ | (refine AW.reg mix ?_; (simp (implicitDefEqProofs := false) [↓callI, vopsN, vopsG, ↓step_slice, ↓Am.A.step, ↓binInt, ↓binStr, vopsE0, vopsE1, -vops, -Bool.exists_bool]; try simp (disch := omega) only [w64, wu64])) | (refine need.of (by first | omega | kernel_rfl) ?_) | (refine AW.skip ?_; (try simp (implicitDefEqProofs := false) [↓callI, vopsN, vopsG, ↓step_slice, ↓Am.A.step, ↓binInt, ↓binStr, vopsE0, vopsE1, -vops, -Bool.exists_bool])) | (refine AW.ret ?_; (try simp (implicitDefEqProofs := false) [↓callI, vopsN, vopsG, ↓step_slice, ↓Am.A.step, ↓binInt, ↓binStr, vopsE0, vopsE1, -vops, -Bool.exists_bool])) | (refine AW.exit ?_; (try simp (implicitDefEqProofs := false) [↓callI, vopsN, vopsG, ↓step_slice, ↓Am.A.step, ↓binInt, ↓binStr, vopsE0, vopsE1, -vops, -Bool.exists_bool])))
  refine CallS.pure (hq) (by first | exact plain_d _ | exact plain_tup2 _ _ | exact plain_tup3 _ _ _) rfl (fun _ => rfl) (Subs.refl _) ?_
  (try simp (implicitDefEqProofs := false) [↓callI, vopsN, vopsG, ↓step_slice, ↓Am.A.step, ↓binInt, ↓binStr, vopsE0, vopsE1, -vops, -Bool.exists_bool]; try simp (disch := omega) only [w64, wu64])
  repeat (first | refine AW.seq ?_ | refine AW.block ?_ | (refine AW.reg mix ?_; (simp (implicitDefEqProofs := false) [↓callI, vopsN, vopsG, ↓step_slice, ↓Am.A.step, ↓binInt, ↓binStr, vopsE0, vopsE1, -vops, -Bool.exists_bool]; try simp (disch := omega) only [w64, wu64])) | (refine need.of (by first | omega | kernel_rfl) ?_) | (refine AW.skip ?_; (try simp (implicitDefEqProofs := false) [↓callI, vopsN, vopsG, ↓step_slice, ↓Am.A.step, ↓binInt, ↓binStr, vopsE0, vopsE1, -vops, -Bool.exists_bool])) | (refine AW.ret ?_; (try simp (implicitDefEqProofs := false) [↓callI, vopsN, vopsG, ↓step_slice, ↓Am.A.step, ↓binInt, ↓binStr, vopsE0, vopsE1, -vops, -Bool.exists_bool])) | (refine AW.exit ?_; (try simp (implicitDefEqProofs := false) [↓callI, vopsN, vopsG, ↓step_slice, ↓Am.A.step, ↓binInt, ↓binStr, vopsE0, vopsE1, -vops, -Bool.exists_bool])))
  refine CallS.pure (hq') (by first | exact plain_d _ | exact plain_tup2 _ _ | exact plain_tup3 _ _ _) rfl (fun _ => rfl) (Subs.refl _) ?_
  (try simp (implicitDefEqProofs := false) [↓callI, vopsN, vopsG, ↓step_slice, ↓Am.A.step, ↓binInt, ↓binStr, vopsE0, vopsE1, -vops, -Bool.exists_bool]; try simp (disch := omega) only [w64, wu64])
  repeat (first | refine AW.seq ?_ | refine AW.block ?_ | (refine AW.reg mix ?_; (simp (implicitDefEqProofs := false) [↓callI, vopsN, vopsG, ↓step_slice, ↓Am.A.step, ↓binInt, ↓binStr, vopsE0, vopsE1, -vops, -Bool.exists_bool]; try simp (disch := omega) only [w64, wu64])) | (refine need.of (by first | omega | kernel_rfl) ?_) | (refine AW.skip ?_; (try simp (implicitDefEqProofs := false) [↓callI, vopsN, vopsG, ↓step_slice, ↓Am.A.step, ↓binInt, ↓binStr, vopsE0, vopsE1, -vops, -Bool.exists_bool])) | (refine AW.ret ?_; (try simp (implicitDefEqProofs := false) [↓callI, vopsN, vopsG, ↓step_slice, ↓Am.A.step, ↓binInt, ↓binStr, vopsE0, vopsE1, -vops, -Bool.exists_bool])) | (refine AW.exit ?_; (try simp (implicitDefEqProofs := false) [↓callI, vopsN, vopsG, ↓step_slice, ↓Am.A.step, ↓binInt, ↓binStr, vopsE0, vopsE1, -vops, -Bool.exists_bool])))
  try simp only [ew]
  refine CallS.obj1 0 (hh) (by first | exact plain_d _ | exact plain_tup2 _ _ | exact plain_tup3 _ _ _) ⟨rfl, fun _ => rfl⟩ ⟨rfl, fun _ => rfl⟩ rfl (by rfl) (Subs.of (by simp)) ?_
  (try simp (implicitDefEqProofs := false) [↓callI, vopsN, vopsG, ↓step_slice, ↓Am.A.step, ↓binInt, ↓binStr, vopsE0, vopsE1, -vops, -Bool.exists_bool]; try simp (disch := omega) only [w64, wu64])
  repeat (first | refine AW.seq ?_ | refine AW.block ?_ | (refine AW.reg mix ?_; (simp (implicitDefEqProofs := false) [↓callI, vopsN, vopsG, ↓step_slice, ↓Am.A.step, ↓binInt, ↓binStr, vopsE0, vopsE1, -vops, -Bool.exists_bool]; try simp (disch := omega) only [w64, wu64])) | (refine need.of (by first | omega | kernel_rfl) ?_) | (refine AW.skip ?_; (try simp (implicitDefEqProofs := false) [↓callI, vopsN, vopsG, ↓step_slice, ↓Am.A.step, ↓binInt, ↓binStr, vopsE0, vopsE1, -vops, -Bool.exists_bool])) | (refine AW.ret ?_; (try simp (implicitDefEqProofs := false) [↓callI, vopsN, vopsG, ↓step_slice, ↓Am.A.step, ↓binInt, ↓binStr, vopsE0, vopsE1, -vops, -Bool.exists_bool])) | (refine AW.exit ?_; (try simp (implicitDefEqProofs := false) [↓callI, vopsN, vopsG, ↓step_slice, ↓Am.A.step, ↓binInt, ↓binStr, vopsE0, vopsE1, -vops, -Bool.exists_bool])))

theorem yagain_g (cs : List Bool) (s k j p : Nat) (dd : Bool) (h1 : 1 ≤ s) (h2 : s ≤ 5) (hk : k ≤ 1023) (hr : j ≤ 1023) (hp0 : p ≤ cs.length) (hn : cs.length ≤ 4000000) (R : Bool × Int × Nat × Bool) (hR : R = halfR cs ((placeY s k).shift - (placeY s j).shift) p dd) :
    Eqn Tryz.prog n_yu_Again [.p 0 0, .d (.int .i64 s), .d (.int .i64 k), .d (.int .i64 j)] [tapeO cs p dd] (.tup [.d (.bool R.1), .d (.int .i64 R.2.1)]) [tapeO cs R.2.2.1 R.2.2.2] := by
  refine Eqn.obj1 r_yu_Again (plain_tup2 _ _) ⟨rfl, fun _ => rfl⟩ ?_
  simp only [c_yu_Again]
  have ha := at_good s k h1 h2 hk
  have hb := at_good s j h1 h2 hr
  have b1 : (placeY s k).shift ≤ 8192 := (placeY_size (s := s) (k := k) (by omega) (by omega) (by omega)).2.1
  have b2 : (placeY s j).shift ≤ 8192 := (placeY_size (s := s) (k := j) (by omega) (by omega) (by omega)).2.1
  generalize placeY s k = P at *
  generalize placeY s j = q at *
  obtain ⟨px, ps, pv, pr⟩ := P
  obtain ⟨qx, qs, qv, qr⟩ := q
  simp only [plD] at ha hb b1 b2 hR
  have ew : IntKind.i64.wrap ((ps : Int) - qs) = (ps : Int) - qs := w64 (by omega) (by omega)
  have hh := half_ok cs p dd ((ps : Int) - qs) (by omega) hp0 hn
  rw [show ((ps : Int) - qs).toNat = ps - qs by omega, ← hR] at hh
  clear hR
  obtain ⟨r1, r2, r3, r4⟩ := R
  simp only at hh ⊢
  repeat (first | refine AW.seq ?_ | refine AW.block ?_ | (refine AW.reg mix ?_; (simp (implicitDefEqProofs := false) [↓callI, vopsN, vopsG, ↓step_slice, ↓Am.A.step, ↓binInt, ↓binStr, vopsE0, vopsE1, -vops, -Bool.exists_bool]; try simp (disch := omega) only [w64, wu64])) | (refine need.of (by first | omega | kernel_rfl) ?_) | (refine AW.skip ?_; (try simp (implicitDefEqProofs := false) [↓callI, vopsN, vopsG, ↓step_slice, ↓Am.A.step, ↓binInt, ↓binStr, vopsE0, vopsE1, -vops, -Bool.exists_bool])) | (refine AW.ret ?_; (try simp (implicitDefEqProofs := false) [↓callI, vopsN, vopsG, ↓step_slice, ↓Am.A.step, ↓binInt, ↓binStr, vopsE0, vopsE1, -vops, -Bool.exists_bool])) | (refine AW.exit ?_; (try simp (implicitDefEqProofs := false) [↓callI, vopsN, vopsG, ↓step_slice, ↓Am.A.step, ↓binInt, ↓binStr, vopsE0, vopsE1, -vops, -Bool.exists_bool])))
  refine CallS.pure (ha) (by first | exact plain_d _ | exact plain_tup2 _ _ | exact plain_tup3 _ _ _) rfl (fun _ => rfl) (Subs.refl _) ?_
  (try simp (implicitDefEqProofs := false) [↓callI, vopsN, vopsG, ↓step_slice, ↓Am.A.step, ↓binInt, ↓binStr, vopsE0, vopsE1, -vops, -Bool.exists_bool]; try simp (disch := omega) only [w64, wu64])
  repeat (first | refine AW.seq ?_ | refine AW.block ?_ | (refine AW.reg mix ?_; (simp (implicitDefEqProofs := false) [↓callI, vopsN, vopsG, ↓step_slice, ↓Am.A.step, ↓binInt, ↓binStr, vopsE0, vopsE1, -vops, -Bool.exists_bool]; try simp (disch := omega) only [w64, wu64])) | (refine need.of (by first | omega | kernel_rfl) ?_) | (refine AW.skip ?_; (try simp (implicitDefEqProofs := false) [↓callI, vopsN, vopsG, ↓step_slice, ↓Am.A.step, ↓binInt, ↓binStr, vopsE0, vopsE1, -vops, -Bool.exists_bool])) | (refine AW.ret ?_; (try simp (implicitDefEqProofs := false) [↓callI, vopsN, vopsG, ↓step_slice, ↓Am.A.step, ↓binInt, ↓binStr, vopsE0, vopsE1, -vops, -Bool.exists_bool])) | (refine AW.exit ?_; (try simp (implicitDefEqProofs := false) [↓callI, vopsN, vopsG, ↓step_slice, ↓Am.A.step, ↓binInt, ↓binStr, vopsE0, vopsE1, -vops, -Bool.exists_bool])))
  refine AW.cond rfl (fun h => ?_) (fun h => ?_)
  · simp at h
  repeat (first | refine AW.seq ?_ | refine AW.block ?_ | (refine AW.reg mix ?_; (simp (implicitDefEqProofs := false) [↓callI, vopsN, vopsG, ↓step_slice, ↓Am.A.step, ↓binInt, ↓binStr, vopsE0, vopsE1, -vops, -Bool.exists_bool]; try simp (disch := omega) only [w64, wu64])) | (refine need.of (by first | omega | kernel_rfl) ?_) | (refine AW.skip ?_; (try simp (implicitDefEqProofs := false) [↓callI, vopsN, vopsG, ↓step_slice, ↓Am.A.step, ↓binInt, ↓binStr, vopsE0, vopsE1, -vops, -Bool.exists_bool])) | (refine AW.ret ?_; (try simp (implicitDefEqProofs := false) [↓callI, vopsN, vopsG, ↓step_slice, ↓Am.A.step, ↓binInt, ↓binStr, vopsE0, vopsE1, -vops, -Bool.exists_bool])) | (refine AW.exit ?_; (try simp (implicitDefEqProofs := false) [↓callI, vopsN, vopsG, ↓step_slice, ↓Am.A.step, ↓binInt, ↓binStr, vopsE0, vopsE1, -vops, -Bool.exists_bool])))
  refine CallS.pure (hb) (by first | exact plain_d _ | exact plain_tup2 _ _ | exact plain_tup3 _ _ _) rfl (fun _ => rfl) (Subs.refl _) ?_
  (try simp (implicitDefEqProofs := false) [↓callI, vopsN, vopsG, ↓step_slice, ↓Am.A.step, ↓binInt, ↓binStr, vopsE0, vopsE1, -vops, -Bool.exists_bool]; try simp (disch := omega) only [w64, wu64])
  repeat (first | refine AW.seq ?_ | refine AW.block ?_ | (refine AW.reg mix ?_; (simp (implicitDefEqProofs := false) [↓callI, vopsN, vopsG, ↓step_slice, ↓Am.A.step, ↓binInt, ↓binStr, vopsE0, vopsE1, -vops, -Bool.exists_bool]; try simp (disch := omega) only [w64, wu64])) | (refine need.of (by first | omega | kernel_rfl) ?_) | (refine AW.skip ?_; (try simp (implicitDefEqProofs := false) [↓callI, vopsN, vopsG, ↓step_slice, ↓Am.A.step, ↓binInt, ↓binStr, vopsE0, vopsE1, -vops, -Bool.exists_bool])) | (refine AW.ret ?_; (try simp (implicitDefEqProofs := false) [↓callI, vopsN, vopsG, ↓step_slice, ↓Am.A.step, ↓binInt, ↓binStr, vopsE0, vopsE1, -vops, -Bool.exists_bool])) | (refine AW.exit ?_; (try simp (implicitDefEqProofs := false) [↓callI, vopsN, vopsG, ↓step_slice, ↓Am.A.step, ↓binInt, ↓binStr, vopsE0, vopsE1, -vops, -Bool.exists_bool])))
  refine AW.cond rfl (fun h => ?_) (fun h => ?_)
  · simp at h
  repeat (first | refine AW.seq ?_ | refine AW.block ?_ | (refine AW.reg mix ?_; (simp (implicitDefEqProofs := false) [↓callI, vopsN, vopsG, ↓step_slice, ↓Am.A.step, ↓binInt, ↓binStr, vopsE0, vopsE1, -vops, ew, -Bool.exists_bool]; try simp (disch := omega) only [w64, wu64])) | (refine need.of (by first | omega | kernel_rfl) ?_) | (refine AW.skip ?_; (try simp (implicitDefEqProofs := false) [↓callI, vopsN, vopsG, ↓step_slice, ↓Am.A.step, ↓binInt, ↓binStr, vopsE0, vopsE1, -vops, ew, -Bool.exists_bool])) | (refine AW.ret ?_; (try simp (implicitDefEqProofs := false) [↓callI, vopsN, vopsG, ↓step_slice, ↓Am.A.step, ↓binInt, ↓binStr, vopsE0, vopsE1, -vops, ew, -Bool.exists_bool])) | (refine AW.exit ?_; (try simp (implicitDefEqProofs := false) [↓callI, vopsN, vopsG, ↓step_slice, ↓Am.A.step, ↓binInt, ↓binStr, vopsE0, vopsE1, -vops, ew, -Bool.exists_bool])))
  try simp only [ew]
  refine CallS.obj1 0 (hh) (by first | exact plain_d _ | exact plain_tup2 _ _ | exact plain_tup3 _ _ _) ⟨rfl, fun _ => rfl⟩ ⟨rfl, fun _ => rfl⟩ rfl (by rfl) (Subs.of (by simp)) ?_
  (try simp (implicitDefEqProofs := false) [↓callI, vopsN, vopsG, ↓step_slice, ↓Am.A.step, ↓binInt, ↓binStr, vopsE0, vopsE1, -vops, -Bool.exists_bool]; try simp (disch := omega) only [w64, wu64])
  repeat (first | refine AW.seq ?_ | refine AW.block ?_ | (refine AW.reg mix ?_; (simp (implicitDefEqProofs := false) [↓callI, vopsN, vopsG, ↓step_slice, ↓Am.A.step, ↓binInt, ↓binStr, vopsE0, vopsE1, -vops, -Bool.exists_bool]; try simp (disch := omega) only [w64, wu64])) | (refine need.of (by first | omega | kernel_rfl) ?_) | (refine AW.skip ?_; (try simp (implicitDefEqProofs := false) [↓callI, vopsN, vopsG, ↓step_slice, ↓Am.A.step, ↓binInt, ↓binStr, vopsE0, vopsE1, -vops, -Bool.exists_bool])) | (refine AW.ret ?_; (try simp (implicitDefEqProofs := false) [↓callI, vopsN, vopsG, ↓step_slice, ↓Am.A.step, ↓binInt, ↓binStr, vopsE0, vopsE1, -vops, -Bool.exists_bool])) | (refine AW.exit ?_; (try simp (implicitDefEqProofs := false) [↓callI, vopsN, vopsG, ↓step_slice, ↓Am.A.step, ↓binInt, ↓binStr, vopsE0, vopsE1, -vops, -Bool.exists_bool])))

/-- a kind's steps elsewhere are so -/
structure AgainOf (cs : List Bool) (ti : TypeId) (d : D) (g : FuncId) (ag : AgT) : Prop where
  meth : MethOK Tryz.prog ti "tallymark/chain.again" g
  run : ∀ (x r p : Nat) (dd : Bool), x ≤ 1023 → r ≤ 1023 → p ≤ cs.length → Eqn Tryz.prog g [.d d, .p 0 0, .d (.int .i64 x), .d (.int .i64 r)] [tapeO cs p dd] (.tup [.d (.bool (ag x r p dd).1), .d (.int .i64 (ag x r p dd).2.1)]) [tapeO cs (ag x r p dd).2.2.1 (ag x r p dd).2.2.2]
  le : ∀ (x r p : Nat) (dd : Bool), p ≤ cs.length → (ag x r p dd).2.2.1 ≤ cs.length

theorem meth_magain : MethOK Tryz.prog 143 "tallymark/chain.again" n_chain_aMorris_again := fun v w => by kernel_rfl
theorem meth_fagain : MethOK Tryz.prog 144 "tallymark/chain.again" n_chain_aFloat_again := fun v w => by kernel_rfl
theorem meth_yagain : MethOK Tryz.prog 145 "tallymark/chain.again" n_chain_aYu_again := fun v w => by kernel_rfl

theorem cmagain_ok (cs : List Bool) (a k r p : Nat) (dd : Bool) (R : Bool × Int × Nat × Bool) (hh : Eqn Tryz.prog n_morris_Again [.p 0 0, .d (.int .i64 a), .d (.int .i64 k), .d (.int .i64 r)] [tapeO cs p dd] (.tup [.d (.bool R.1), .d (.int .i64 R.2.1)]) [tapeO cs R.2.2.1 R.2.2.2]) :
    Eqn Tryz.prog n_chain_aMorris_again [.d (.int .i64 a), .p 0 0, .d (.int .i64 k), .d (.int .i64 r)] [tapeO cs p dd] (.tup [.d (.bool R.1), .d (.int .i64 R.2.1)]) [tapeO cs R.2.2.1 R.2.2.2] := by
  refine Eqn.obj1 r_chain_aMorris_again (plain_tup2 _ _) ⟨rfl, fun _ => rfl⟩ ?_
  simp only [c_chain_aMorris_again]
  obtain ⟨R1, R2, R3, R4⟩ := R
  simp only at hh ⊢
  repeat (first | refine AW.seq ?_ | refine AW.block ?_ | (refine AW.reg mix ?_; (simp (implicitDefEqProofs := false) [↓callI, vopsN, vopsG, ↓step_slice, ↓Am.A.step, ↓binInt, ↓binStr, vopsE0, vopsE1, -vops, -Bool.exists_bool]; try simp (disch := omega) only [w64, wu64])) | (refine need.of (by first | omega | kernel_rfl) ?_) | (refine AW.skip ?_; (try simp (implicitDefEqProofs := false) [↓callI, vopsN, vopsG, ↓step_slice, ↓Am.A.step, ↓binInt, ↓binStr, vopsE0, vopsE1, -vops, -Bool.exists_bool])) | (refine AW.ret ?_; (try simp (implicitDefEqProofs := false) [↓callI, vopsN, vopsG, ↓step_slice, ↓Am.A.step, ↓binInt, ↓binStr, vopsE0, vopsE1, -vops, -Bool.exists_bool])) | (refine AW.exit ?_; (try simp (implicitDefEqProofs := false) [↓callI, vopsN, vopsG, ↓step_slice, ↓Am.A.step, ↓binInt, ↓binStr, vopsE0, vopsE1, -vops, -Bool.exists_bool])))
  refine CallS.obj1 0 (hh) (by first | exact plain_d _ | exact plain_tup2 _ _ | exact plain_tup3 _ _ _) ⟨rfl, fun _ => rfl⟩ ⟨rfl, fun _ => rfl⟩ rfl (by rfl) (Subs.of (by simp)) ?_
  (try simp (implicitDefEqProofs := false) [↓callI, vopsN, vopsG, ↓step_slice, ↓Am.A.step, ↓binInt, ↓binStr, vopsE0, vopsE1, -vops, -Bool.exists_bool]; try simp (disch := omega) only [w64, wu64])
  repeat (first | refine AW.seq ?_ | refine AW.block ?_ | (refine AW.reg mix ?_; (simp (implicitDefEqProofs := false) [↓callI, vopsN, vopsG, ↓step_slice, ↓Am.A.step, ↓binInt, ↓binStr, vopsE0, vopsE1, -vops, -Bool.exists_bool]; try simp (disch := omega) only [w64, wu64])) | (refine need.of (by first | omega | kernel_rfl) ?_) | (refine AW.skip ?_; (try simp (implicitDefEqProofs := false) [↓callI, vopsN, vopsG, ↓step_slice, ↓Am.A.step, ↓binInt, ↓binStr, vopsE0, vopsE1, -vops, -Bool.exists_bool])) | (refine AW.ret ?_; (try simp (implicitDefEqProofs := false) [↓callI, vopsN, vopsG, ↓step_slice, ↓Am.A.step, ↓binInt, ↓binStr, vopsE0, vopsE1, -vops, -Bool.exists_bool])) | (refine AW.exit ?_; (try simp (implicitDefEqProofs := false) [↓callI, vopsN, vopsG, ↓step_slice, ↓Am.A.step, ↓binInt, ↓binStr, vopsE0, vopsE1, -vops, -Bool.exists_bool])))
theorem cfagain_ok (cs : List Bool) (a k r p : Nat) (dd : Bool) (R : Bool × Int × Nat × Bool) (hh : Eqn Tryz.prog n_float_Again [.p 0 0, .d (.int .i64 a), .d (.int .i64 k), .d (.int .i64 r)] [tapeO cs p dd] (.tup [.d (.bool R.1), .d (.int .i64 R.2.1)]) [tapeO cs R.2.2.1 R.2.2.2]) :
    Eqn Tryz.prog n_chain_aFloat_again [.d (.int .i64 a), .p 0 0, .d (.int .i64 k), .d (.int .i64 r)] [tapeO cs p dd] (.tup [.d (.bool R.1), .d (.int .i64 R.2.1)]) [tapeO cs R.2.2.1 R.2.2.2] := by
  refine Eqn.obj1 r_chain_aFloat_again (plain_tup2 _ _) ⟨rfl, fun _ => rfl⟩ ?_
  simp only [c_chain_aFloat_again]
  obtain ⟨R1, R2, R3, R4⟩ := R
  simp only at hh ⊢
  repeat (first | refine AW.seq ?_ | refine AW.block ?_ | (refine AW.reg mix ?_; (simp (implicitDefEqProofs := false) [↓callI, vopsN, vopsG, ↓step_slice, ↓Am.A.step, ↓binInt, ↓binStr, vopsE0, vopsE1, -vops, -Bool.exists_bool]; try simp (disch := omega) only [w64, wu64])) | (refine need.of (by first | omega | kernel_rfl) ?_) | (refine AW.skip ?_; (try simp (implicitDefEqProofs := false) [↓callI, vopsN, vopsG, ↓step_slice, ↓Am.A.step, ↓binInt, ↓binStr, vopsE0, vopsE1, -vops, -Bool.exists_bool])) | (refine AW.ret ?_; (try simp (implicitDefEqProofs := false) [↓callI, vopsN, vopsG, ↓step_slice, ↓Am.A.step, ↓binInt, ↓binStr, vopsE0, vopsE1, -vops, -Bool.exists_bool])) | (refine AW.exit ?_; (try simp (implicitDefEqProofs := false) [↓callI, vopsN, vopsG, ↓step_slice, ↓Am.A.step, ↓binInt, ↓binStr, vopsE0, vopsE1, -vops, -Bool.exists_bool])))
  refine CallS.obj1 0 (hh) (by first | exact plain_d _ | exact plain_tup2 _ _ | exact plain_tup3 _ _ _) ⟨rfl, fun _ => rfl⟩ ⟨rfl, fun _ => rfl⟩ rfl (by rfl) (Subs.of (by simp)) ?_
  (try simp (implicitDefEqProofs := false) [↓callI, vopsN, vopsG, ↓step_slice, ↓Am.A.step, ↓binInt, ↓binStr, vopsE0, vopsE1, -vops, -Bool.exists_bool]; try simp (disch := omega) only [w64, wu64])
  repeat (first | refine AW.seq ?_ | refine AW.block ?_ | (refine AW.reg mix ?_; (simp (implicitDefEqProofs := false) [↓callI, vopsN, vopsG, ↓step_slice, ↓Am.A.step, ↓binInt, ↓binStr, vopsE0, vopsE1, -vops, -Bool.exists_bool]; try simp (disch := omega) only [w64, wu64])) | (refine need.of (by first | omega | kernel_rfl) ?_) | (refine AW.skip ?_; (try simp (implicitDefEqProofs := false) [↓callI, vopsN, vopsG, ↓step_slice, ↓Am.A.step, ↓binInt, ↓binStr, vopsE0, vopsE1, -vops, -Bool.exists_bool])) | (refine AW.ret ?_; (try simp (implicitDefEqProofs := false) [↓callI, vopsN, vopsG, ↓step_slice, ↓Am.A.step, ↓binInt, ↓binStr, vopsE0, vopsE1, -vops, -Bool.exists_bool])) | (refine AW.exit ?_; (try simp (implicitDefEqProofs := false) [↓callI, vopsN, vopsG, ↓step_slice, ↓Am.A.step, ↓binInt, ↓binStr, vopsE0, vopsE1, -vops, -Bool.exists_bool])))
theorem cyagain_ok (cs : List Bool) (a k r p : Nat) (dd : Bool) (R : Bool × Int × Nat × Bool) (hh : Eqn Tryz.prog n_yu_Again [.p 0 0, .d (.int .i64 a), .d (.int .i64 k), .d (.int .i64 r)] [tapeO cs p dd] (.tup [.d (.bool R.1), .d (.int .i64 R.2.1)]) [tapeO cs R.2.2.1 R.2.2.2]) :
    Eqn Tryz.prog n_chain_aYu_again [.d (.int .i64 a), .p 0 0, .d (.int .i64 k), .d (.int .i64 r)] [tapeO cs p dd] (.tup [.d (.bool R.1), .d (.int .i64 R.2.1)]) [tapeO cs R.2.2.1 R.2.2.2] := by
  refine Eqn.obj1 r_chain_aYu_again (plain_tup2 _ _) ⟨rfl, fun _ => rfl⟩ ?_
  simp only [c_chain_aYu_again]
  obtain ⟨R1, R2, R3, R4⟩ := R
  simp only at hh ⊢
  repeat (first | refine AW.seq ?_ | refine AW.block ?_ | (refine AW.reg mix ?_; (simp (implicitDefEqProofs := false) [↓callI, vopsN, vopsG, ↓step_slice, ↓Am.A.step, ↓binInt, ↓binStr, vopsE0, vopsE1, -vops, -Bool.exists_bool]; try simp (disch := omega) only [w64, wu64])) | (refine need.of (by first | omega | kernel_rfl) ?_) | (refine AW.skip ?_; (try simp (implicitDefEqProofs := false) [↓callI, vopsN, vopsG, ↓step_slice, ↓Am.A.step, ↓binInt, ↓binStr, vopsE0, vopsE1, -vops, -Bool.exists_bool])) | (refine AW.ret ?_; (try simp (implicitDefEqProofs := false) [↓callI, vopsN, vopsG, ↓step_slice, ↓Am.A.step, ↓binInt, ↓binStr, vopsE0, vopsE1, -vops, -Bool.exists_bool])) | (refine AW.exit ?_; (try simp (implicitDefEqProofs := false) [↓callI, vopsN, vopsG, ↓step_slice, ↓Am.A.step, ↓binInt, ↓binStr, vopsE0, vopsE1, -vops, -Bool.exists_bool])))
  refine CallS.obj1 0 (hh) (by first | exact plain_d _ | exact plain_tup2 _ _ | exact plain_tup3 _ _ _) ⟨rfl, fun _ => rfl⟩ ⟨rfl, fun _ => rfl⟩ rfl (by rfl) (Subs.of (by simp)) ?_
  (try simp (implicitDefEqProofs := false) [↓callI, vopsN, vopsG, ↓step_slice, ↓Am.A.step, ↓binInt, ↓binStr, vopsE0, vopsE1, -vops, -Bool.exists_bool]; try simp (disch := omega) only [w64, wu64])
  repeat (first | refine AW.seq ?_ | refine AW.block ?_ | (refine AW.reg mix ?_; (simp (implicitDefEqProofs := false) [↓callI, vopsN, vopsG, ↓step_slice, ↓Am.A.step, ↓binInt, ↓binStr, vopsE0, vopsE1, -vops, -Bool.exists_bool]; try simp (disch := omega) only [w64, wu64])) | (refine need.of (by first | omega | kernel_rfl) ?_) | (refine AW.skip ?_; (try simp (implicitDefEqProofs := false) [↓callI, vopsN, vopsG, ↓step_slice, ↓Am.A.step, ↓binInt, ↓binStr, vopsE0, vopsE1, -vops, -Bool.exists_bool])) | (refine AW.ret ?_; (try simp (implicitDefEqProofs := false) [↓callI, vopsN, vopsG, ↓step_slice, ↓Am.A.step, ↓binInt, ↓binStr, vopsE0, vopsE1, -vops, -Bool.exists_bool])) | (refine AW.exit ?_; (try simp (implicitDefEqProofs := false) [↓callI, vopsN, vopsG, ↓step_slice, ↓Am.A.step, ↓binInt, ↓binStr, vopsE0, vopsE1, -vops, -Bool.exists_bool])))

theorem good_again {k a w : Nat} (h : GoodS k a w) (cs : List Bool) (hn : cs.length ≤ 4000000) : ∃ ti d g, AgainOf cs ti d g (agOf cs k a) ∧ kindD k a = .ifc ti d := by
  obtain ⟨h, -⟩ := h
  rcases h with ⟨rfl, h1, h2⟩ | ⟨rfl, h1⟩ | ⟨rfl, h1, h2⟩
  · exact ⟨_, _, _, ⟨meth_magain, fun x r p dd hx hr hp => cmagain_ok cs a x r p dd _ (magain_g cs a x r p dd h1 (by omega) hx hr hp hn), fun x r p dd hp => powerR_le _ _ _ hp⟩, rfl⟩
  · exact ⟨_, _, _, ⟨meth_fagain, fun x r p dd hx hr hp => cfagain_ok cs a x r p dd _ (fagain_g cs a x r p dd (by omega) hx hr hp hn _ rfl), fun x r p dd hp => halfR_le _ _ _ hp⟩, rfl⟩
  · exact ⟨_, _, _, ⟨meth_yagain, fun x r p dd hx hr hp => cyagain_ok cs a x r p dd _ (yagain_g cs a x r p dd h1 (by omega) hx hr hp hn _ rfl), fun x r p dd hp => halfR_le _ _ _ hp⟩, rfl⟩
end
end Go.Proofs.YtakjegcjeffmgaaGreat.Am
namespace Go.Proofs.YtakjegcjeffmgaaGreat.Am
section
open Go.RowKit
set_option maxRecDepth 100000
set_option linter.unusedSimpArgs false
set_option linter.unusedVariables false

/-- the closure that asks what a step is here -/
theorem askM_ok {T1 t2 T3 ti : TypeId} {d : D} {g : FuncId} {cs : List Bool} {k r : Int} {p : Nat} {dd r1 : Bool} {r2 : Int} {r3 : Nat} {r4 : Bool} (hm : MethOK Tryz.prog ti "tallymark/chain.again" g)
    (E : Eqn Tryz.prog g [.d d, .p 0 0, .d (.int .i64 k), .d (.int .i64 r)] [tapeO cs p dd] (.tup [.d (.bool r1), .d (.int .i64 r2)]) [tapeO cs r3 r4]) :
    Eqn Tryz.prog n_chain_Param_Merge_1 [.d (.int .i64 k), .p 1 0, .p 2 0, .p 3 0] [tapeO cs p dd, ⟨T1, [.d (.ifc ti d)]⟩, ⟨t2, [.p 0 0]⟩, ⟨T3, [.d (.int .i64 r)]⟩] (.tup [.d (.bool r1), .d (.int .i64 r2)]) [tapeO cs r3 r4, ⟨T1, [.d (.ifc ti d)]⟩, ⟨t2, [.p 0 0]⟩, ⟨T3, [.d (.int .i64 r)]⟩] := by
  refine Eqn.gen [0, 1, 2, 3] r_chain_Param_Merge_1 (by simp) (by simp) (by rfl) (by decide) (by simp) (by simp) ?_
  simp only [c_chain_Param_Merge_1]
  repeat (first | refine AW.seq ?_ | refine AW.block ?_ | (refine AW.reg mix ?_; (simp (implicitDefEqProofs := false) [↓callI, vopsN, vopsG, ↓step_slice, ↓Am.A.step, ↓binInt, ↓binStr, vopsE0, vopsE1, -vops, -Bool.exists_bool]; try simp (disch := omega) only [w64, wu64])) | (refine need.of (by first | omega | kernel_rfl) ?_) | (refine AW.skip ?_; (try simp (implicitDefEqProofs := false) [↓callI, vopsN, vopsG, ↓step_slice, ↓Am.A.step, ↓binInt, ↓binStr, vopsE0, vopsE1, -vops, -Bool.exists_bool])) | (refine AW.ret ?_; (try simp (implicitDefEqProofs := false) [↓callI, vopsN, vopsG, ↓step_slice, ↓Am.A.step, ↓binInt, ↓binStr, vopsE0, vopsE1, -vops, -Bool.exists_bool])) | (refine AW.exit ?_; (try simp (implicitDefEqProofs := false) [↓callI, vopsN, vopsG, ↓step_slice, ↓Am.A.step, ↓binInt, ↓binStr, vopsE0, vopsE1, -vops, -Bool.exists_bool])))
  refine ⟨_, hm, ?_⟩
  refine CallS.obj1 0 (E) (by first | exact plain_d _ | exact plain_tup2 _ _ | exact plain_tup3 _ _ _) ⟨rfl, fun _ => rfl⟩ ⟨rfl, fun _ => rfl⟩ rfl (by rfl) (Subs.of (by simp)) ?_
  (try simp (implicitDefEqProofs := false) [↓callI, vopsN, vopsG, ↓step_slice, ↓Am.A.step, ↓binInt, ↓binStr, vopsE0, vopsE1, -vops, -Bool.exists_bool]; try simp (disch := omega) only [w64, wu64])
  repeat (first | refine AW.seq ?_ | refine AW.block ?_ | (refine AW.reg mix ?_; (simp (implicitDefEqProofs := false) [↓callI, vopsN, vopsG, ↓step_slice, ↓Am.A.step, ↓binInt, ↓binStr, vopsE0, vopsE1, -vops, -Bool.exists_bool]; try simp (disch := omega) only [w64, wu64])) | (refine need.of (by first | omega | kernel_rfl) ?_) | (refine AW.skip ?_; (try simp (implicitDefEqProofs := false) [↓callI, vopsN, vopsG, ↓step_slice, ↓Am.A.step, ↓binInt, ↓binStr, vopsE0, vopsE1, -vops, -Bool.exists_bool])) | (refine AW.ret ?_; (try simp (implicitDefEqProofs := false) [↓callI, vopsN, vopsG, ↓step_slice, ↓Am.A.step, ↓binInt, ↓binStr, vopsE0, vopsE1, -vops, -Bool.exists_bool])) | (refine AW.exit ?_; (try simp (implicitDefEqProofs := false) [↓callI, vopsN, vopsG, ↓step_slice, ↓Am.A.step, ↓binInt, ↓binStr, vopsE0, vopsE1, -vops, -Bool.exists_bool])))

/-- one place on: at the top it is full -/
theorem on_topM {T1 t2 T3 ti : TypeId} {d : D} {cs : List Bool} {p : Nat} {dd : Bool} (k a r : Int) (w : Nat) (w2 : w ≤ 10) (full : Bool) (hc : Eqn Tryz.prog n_chain_Param_Check [.d (parD k a w)] [] (.d (.int .i64 0)) []) :
    Eqn Tryz.prog n_chain_Param_on [.d (parD k a w), .d (.agg [.int .i64 (2 ^ w - 1 : Nat), .bool full]), .fn (.func n_chain_Param_Merge_1) [.p 1 0, .p 2 0, .p 3 0]] [tapeO cs p dd, ⟨T1, [.d (.ifc ti d)]⟩, ⟨t2, [.p 0 0]⟩, ⟨T3, [.d (.int .i64 r)]⟩] (.tup [.d (.agg [.int .i64 (2 ^ w - 1 : Nat), .bool true]), .d (.int .i64 0)]) [tapeO cs p dd, ⟨T1, [.d (.ifc ti d)]⟩, ⟨t2, [.p 0 0]⟩, ⟨T3, [.d (.int .i64 r)]⟩] := by
  refine Eqn.gen [0, 1, 2, 3] r_chain_Param_on (by simp) (by simp) (by rfl) (by decide) (by simp) (by simp) ?_
  have ht := top_ok k a w w2 hc
  simp only [c_chain_Param_on, parD] at ht ⊢
  generalize 2 ^ w - 1 = S at *
  repeat (first | refine AW.seq ?_ | refine AW.block ?_ | (refine AW.reg mix ?_; (simp (implicitDefEqProofs := false) [↓callI, vopsN, vopsG, ↓step_slice, ↓Am.A.step, ↓binInt, ↓binStr, vopsE0, vopsE1, -vops, -Bool.exists_bool]; try simp (disch := omega) only [w64, wu64])) | (refine need.of (by first | omega | kernel_rfl) ?_) | (refine AW.skip ?_; (try simp (implicitDefEqProofs := false) [↓callI, vopsN, vopsG, ↓step_slice, ↓Am.A.step, ↓binInt, ↓binStr, vopsE0, vopsE1, -vops, -Bool.exists_bool])) | (refine AW.ret ?_; (try simp (implicitDefEqProofs := false) [↓callI, vopsN, vopsG, ↓step_slice, ↓Am.A.step, ↓binInt, ↓binStr, vopsE0, vopsE1, -vops, -Bool.exists_bool])) | (refine AW.exit ?_; (try simp (implicitDefEqProofs := false) [↓callI, vopsN, vopsG, ↓step_slice, ↓Am.A.step, ↓binInt, ↓binStr, vopsE0, vopsE1, -vops, -Bool.exists_bool])))
  refine CallS.pure (ht) (by first | exact plain_d _ | exact plain_tup2 _ _ | exact plain_tup3 _ _ _) rfl (fun _ => rfl) (Subs.refl _) ?_
  (try simp (implicitDefEqProofs := false) [↓callI, vopsN, vopsG, ↓step_slice, ↓Am.A.step, ↓binInt, ↓binStr, vopsE0, vopsE1, -vops, -Bool.exists_bool]; try simp (disch := omega) only [w64, wu64])
  repeat (first | refine AW.seq ?_ | refine AW.block ?_ | (refine AW.reg mix ?_; (simp (implicitDefEqProofs := false) [↓callI, vopsN, vopsG, ↓step_slice, ↓Am.A.step, ↓binInt, ↓binStr, vopsE0, vopsE1, -vops, -Bool.exists_bool]; try simp (disch := omega) only [w64, wu64])) | (refine need.of (by first | omega | kernel_rfl) ?_) | (refine AW.skip ?_; (try simp (implicitDefEqProofs := false) [↓callI, vopsN, vopsG, ↓step_slice, ↓Am.A.step, ↓binInt, ↓binStr, vopsE0, vopsE1, -vops, -Bool.exists_bool])) | (refine AW.ret ?_; (try simp (implicitDefEqProofs := false) [↓callI, vopsN, vopsG, ↓step_slice, ↓Am.A.step, ↓binInt, ↓binStr, vopsE0, vopsE1, -vops, -Bool.exists_bool])) | (refine AW.exit ?_; (try simp (implicitDefEqProofs := false) [↓callI, vopsN, vopsG, ↓step_slice, ↓Am.A.step, ↓binInt, ↓binStr, vopsE0, vopsE1, -vops, -Bool.exists_bool])))
  refine AW.cond rfl (fun h => ?_) (fun h => ?_)
  · clear h
    repeat (first | refine AW.seq ?_ | refine AW.block ?_ | (refine AW.reg mix ?_; (simp (implicitDefEqProofs := false) [↓callI, vopsN, vopsG, ↓step_slice, ↓Am.A.step, ↓binInt, ↓binStr, vopsE0, vopsE1, -vops, -Bool.exists_bool]; try simp (disch := omega) only [w64, wu64])) | (refine need.of (by first | omega | kernel_rfl) ?_) | (refine AW.skip ?_; (try simp (implicitDefEqProofs := false) [↓callI, vopsN, vopsG, ↓step_slice, ↓Am.A.step, ↓binInt, ↓binStr, vopsE0, vopsE1, -vops, -Bool.exists_bool])) | (refine AW.ret ?_; (try simp (implicitDefEqProofs := false) [↓callI, vopsN, vopsG, ↓step_slice, ↓Am.A.step, ↓binInt, ↓binStr, vopsE0, vopsE1, -vops, -Bool.exists_bool])) | (refine AW.exit ?_; (try simp (implicitDefEqProofs := false) [↓callI, vopsN, vopsG, ↓step_slice, ↓Am.A.step, ↓binInt, ↓binStr, vopsE0, vopsE1, -vops, -Bool.exists_bool])))
  · simp at h

theorem on_stepM {T1 t2 T3 ti : TypeId} {d : D} {g : FuncId} {cs : List Bool} {x p : Nat} {dd r1 : Bool} {r2 : Int} {r3 : Nat} {r4 : Bool} (k a r : Int) (w : Nat) (w2 : w ≤ 10) (full : Bool) (hx : x < 2 ^ w - 1) (hc : Eqn Tryz.prog n_chain_Param_Check [.d (parD k a w)] [] (.d (.int .i64 0)) [])
    (hm : MethOK Tryz.prog ti "tallymark/chain.again" g) (E : Eqn Tryz.prog g [.d d, .p 0 0, .d (.int .i64 x), .d (.int .i64 r)] [tapeO cs p dd] (.tup [.d (.bool r1), .d (.int .i64 r2)]) [tapeO cs r3 r4]) :
    Eqn Tryz.prog n_chain_Param_on [.d (parD k a w), .d (.agg [.int .i64 x, .bool full]), .fn (.func n_chain_Param_Merge_1) [.p 1 0, .p 2 0, .p 3 0]] [tapeO cs p dd, ⟨T1, [.d (.ifc ti d)]⟩, ⟨t2, [.p 0 0]⟩, ⟨T3, [.d (.int .i64 r)]⟩] (.tup [.d (.agg [.int .i64 (if r1 then x + 1 else x : Nat), .bool full]), .d (.int .i64 r2)]) [tapeO cs r3 r4, ⟨T1, [.d (.ifc ti d)]⟩, ⟨t2, [.p 0 0]⟩, ⟨T3, [.d (.int .i64 r)]⟩] := by
  refine Eqn.gen [0, 1, 2, 3] r_chain_Param_on (by simp) (by simp) (by rfl) (by decide) (by simp) (by simp) ?_
  have ht := top_ok k a w w2 hc
  have h2 : 2 ^ w - 1 ≤ 1023 := by have := Nat.pow_le_pow_right (n := 2) (by omega) w2; omega
  simp only [c_chain_Param_on, parD] at ht ⊢
  generalize 2 ^ w - 1 = S at *
  have g1 : ¬ x = S := by omega
  have g2 : ¬ (x : Int) = S := by omega
  have ew : IntKind.i64.wrap ((x : Int) + 1) = (x : Int) + 1 := w64 (by omega) (by omega)
  have ha := askM_ok (T1 := T1) (t2 := t2) (T3 := T3) hm E
  repeat (first | refine AW.seq ?_ | refine AW.block ?_ | (refine AW.reg mix ?_; (simp (implicitDefEqProofs := false) [↓callI, vopsN, vopsG, ↓step_slice, ↓Am.A.step, ↓binInt, ↓binStr, vopsE0, vopsE1, -vops, -Bool.exists_bool]; try simp (disch := omega) only [w64, wu64])) | (refine need.of (by first | omega | kernel_rfl) ?_) | (refine AW.skip ?_; (try simp (implicitDefEqProofs := false) [↓callI, vopsN, vopsG, ↓step_slice, ↓Am.A.step, ↓binInt, ↓binStr, vopsE0, vopsE1, -vops, -Bool.exists_bool])) | (refine AW.ret ?_; (try simp (implicitDefEqProofs := false) [↓callI, vopsN, vopsG, ↓step_slice, ↓Am.A.step, ↓binInt, ↓binStr, vopsE0, vopsE1, -vops, -Bool.exists_bool])) | (refine AW.exit ?_; (try simp (implicitDefEqProofs := false) [↓callI, vopsN, vopsG, ↓step_slice, ↓Am.A.step, ↓binInt, ↓binStr, vopsE0, vopsE1, -vops, -Bool.exists_bool])))
  refine CallS.pure (ht) (by first | exact plain_d _ | exact plain_tup2 _ _ | exact plain_tup3 _ _ _) rfl (fun _ => rfl) (Subs.refl _) ?_
  (try simp (implicitDefEqProofs := false) [↓callI, vopsN, vopsG, ↓step_slice, ↓Am.A.step, ↓binInt, ↓binStr, vopsE0, vopsE1, -vops, -Bool.exists_bool]; try simp (disch := omega) only [w64, wu64])
  repeat (first | refine AW.seq ?_ | refine AW.block ?_ | (refine AW.reg mix ?_; (simp (implicitDefEqProofs := false) [↓callI, vopsN, vopsG, ↓step_slice, ↓Am.A.step, ↓binInt, ↓binStr, vopsE0, vopsE1, -vops, -Bool.exists_bool]; try simp (disch := omega) only [w64, wu64])) | (refine need.of (by first | omega | kernel_rfl) ?_) | (refine AW.skip ?_; (try simp (implicitDefEqProofs := false) [↓callI, vopsN, vopsG, ↓step_slice, ↓Am.A.step, ↓binInt, ↓binStr, vopsE0, vopsE1, -vops, -Bool.exists_bool])) | (refine AW.ret ?_; (try simp (implicitDefEqProofs := false) [↓callI, vopsN, vopsG, ↓step_slice, ↓Am.A.step, ↓binInt, ↓binStr, vopsE0, vopsE1, -vops, -Bool.exists_bool])) | (refine AW.exit ?_; (try simp (implicitDefEqProofs := false) [↓callI, vopsN, vopsG, ↓step_slice, ↓Am.A.step, ↓binInt, ↓binStr, vopsE0, vopsE1, -vops, -Bool.exists_bool])))
  refine AW.cond rfl (fun h => ?_) (fun h => ?_)
  · simp [g1, g2] at h
  clear h
  repeat (first | refine AW.seq ?_ | refine AW.block ?_ | (refine AW.reg mix ?_; (simp (implicitDefEqProofs := false) [↓callI, vopsN, vopsG, ↓step_slice, ↓Am.A.step, ↓binInt, ↓binStr, vopsE0, vopsE1, -vops, -Bool.exists_bool]; try simp (disch := omega) only [w64, wu64])) | (refine need.of (by first | omega | kernel_rfl) ?_) | (refine AW.skip ?_; (try simp (implicitDefEqProofs := false) [↓callI, vopsN, vopsG, ↓step_slice, ↓Am.A.step, ↓binInt, ↓binStr, vopsE0, vopsE1, -vops, -Bool.exists_bool])) | (refine AW.ret ?_; (try simp (implicitDefEqProofs := false) [↓callI, vopsN, vopsG, ↓step_slice, ↓Am.A.step, ↓binInt, ↓binStr, vopsE0, vopsE1, -vops, -Bool.exists_bool])) | (refine AW.exit ?_; (try simp (implicitDefEqProofs := false) [↓callI, vopsN, vopsG, ↓step_slice, ↓Am.A.step, ↓binInt, ↓binStr, vopsE0, vopsE1, -vops, -Bool.exists_bool])))
  refine CallS.gen [0, 1, 2, 3] (ha) (by decide) (by first | ((repeat (first | exact obsAt_nil | refine obsAt_cons rfl rfl ?_)); done) | (simp; done) | skip) (by first | rfl | (simp; done)) (Subs.of (by first | rfl | (simp; done))) ?_
  (try simp (implicitDefEqProofs := false) [↓callI, vopsN, vopsG, ↓step_slice, ↓Am.A.step, ↓binInt, ↓binStr, vopsE0, vopsE1, -vops, -Bool.exists_bool]; try simp (disch := omega) only [w64, wu64])
  repeat (first | refine AW.seq ?_ | refine AW.block ?_ | (refine AW.reg mix ?_; (simp (implicitDefEqProofs := false) [↓callI, vopsN, vopsG, ↓step_slice, ↓Am.A.step, ↓binInt, ↓binStr, vopsE0, vopsE1, -vops, -Bool.exists_bool]; try simp (disch := omega) only [w64, wu64])) | (refine need.of (by first | omega | kernel_rfl) ?_) | (refine AW.skip ?_; (try simp (implicitDefEqProofs := false) [↓callI, vopsN, vopsG, ↓step_slice, ↓Am.A.step, ↓binInt, ↓binStr, vopsE0, vopsE1, -vops, -Bool.exists_bool])) | (refine AW.ret ?_; (try simp (implicitDefEqProofs := false) [↓callI, vopsN, vopsG, ↓step_slice, ↓Am.A.step, ↓binInt, ↓binStr, vopsE0, vopsE1, -vops, -Bool.exists_bool])) | (refine AW.exit ?_; (try simp (implicitDefEqProofs := false) [↓callI, vopsN, vopsG, ↓step_slice, ↓Am.A.step, ↓binInt, ↓binStr, vopsE0, vopsE1, -vops, -Bool.exists_bool])))
  cases r1 with
  | true =>
    refine AW.cond rfl (fun h => ?_) (fun h => ?_)
    · repeat (first | refine AW.seq ?_ | refine AW.block ?_ | (refine AW.reg mix ?_; (simp (implicitDefEqProofs := false) [↓callI, vopsN, vopsG, ↓step_slice, ↓Am.A.step, ↓binInt, ↓binStr, vopsE0, vopsE1, -vops, ew, -Bool.exists_bool]; try simp (disch := omega) only [w64, wu64])) | (refine need.of (by first | omega | kernel_rfl) ?_) | (refine AW.skip ?_; (try simp (implicitDefEqProofs := false) [↓callI, vopsN, vopsG, ↓step_slice, ↓Am.A.step, ↓binInt, ↓binStr, vopsE0, vopsE1, -vops, ew, -Bool.exists_bool])) | (refine AW.ret ?_; (try simp (implicitDefEqProofs := false) [↓callI, vopsN, vopsG, ↓step_slice, ↓Am.A.step, ↓binInt, ↓binStr, vopsE0, vopsE1, -vops, ew, -Bool.exists_bool])) | (refine AW.exit ?_; (try simp (implicitDefEqProofs := false) [↓callI, vopsN, vopsG, ↓step_slice, ↓Am.A.step, ↓binInt, ↓binStr, vopsE0, vopsE1, -vops, ew, -Bool.exists_bool])))
    · simp at h
  | false =>
    refine AW.cond rfl (fun h => ?_) (fun h => ?_)
    · simp at h
    · repeat (first | refine AW.seq ?_ | refine AW.block ?_ | (refine AW.reg mix ?_; (simp (implicitDefEqProofs := false) [↓callI, vopsN, vopsG, ↓step_slice, ↓Am.A.step, ↓binInt, ↓binStr, vopsE0, vopsE1, -vops, ew, -Bool.exists_bool]; try simp (disch := omega) only [w64, wu64])) | (refine need.of (by first | omega | kernel_rfl) ?_) | (refine AW.skip ?_; (try simp (implicitDefEqProofs := false) [↓callI, vopsN, vopsG, ↓step_slice, ↓Am.A.step, ↓binInt, ↓binStr, vopsE0, vopsE1, -vops, ew, -Bool.exists_bool])) | (refine AW.ret ?_; (try simp (implicitDefEqProofs := false) [↓callI, vopsN, vopsG, ↓step_slice, ↓Am.A.step, ↓binInt, ↓binStr, vopsE0, vopsE1, -vops, ew, -Bool.exists_bool])) | (refine AW.exit ?_; (try simp (implicitDefEqProofs := false) [↓callI, vopsN, vopsG, ↓step_slice, ↓Am.A.step, ↓binInt, ↓binStr, vopsE0, vopsE1, -vops, ew, -Bool.exists_bool])))

/-- so many steps asked again: error, place, full, tape -/
def mergeL (ag : AgT) (top : Nat) : Nat → Nat → Nat → Bool → Nat → Bool → Int × Nat × Bool × Nat × Bool
  | 0, _, x, f, p, d => (0, x, f, p, d)
  | n + 1, r, x, f, p, d =>
    if x = top then mergeL ag top n (r + 1) x true p d
    else if (ag x r p d).2.1 = 0 then mergeL ag top n (r + 1) (if (ag x r p d).1 then x + 1 else x) f (ag x r p d).2.2.1 (ag x r p d).2.2.2
    else ((ag x r p d).2.1, x, f, (ag x r p d).2.2.1, (ag x r p d).2.2.2)

theorem at_ok2 (k a : Int) (w : Nat) (w2 : w ≤ 10) (x y : Int) (h0 : 0 ≤ x) (h1 : x ≤ (2 ^ w - 1 : Nat)) (h2 : 0 ≤ y) (h3 : y ≤ (2 ^ w - 1 : Nat)) (hc : Eqn Tryz.prog n_chain_Param_Check [.d (parD k a w)] [] (.d (.int .i64 0)) []) : Eqn Tryz.prog n_chain_Param_at [.d (parD k a w), .d (.sl 2 [.int .i64 x, .int .i64 y])] [] (.d (.int .i64 0)) [] := by
  refine Eqn.pure r_chain_Param_at (plain_d _) ?_
  have ht := top_ok k a w w2 hc
  simp only [c_chain_Param_at, parD] at hc ht ⊢
  generalize 2 ^ w - 1 = S at *
  repeat (first | refine AW.seq ?_ | refine AW.block ?_ | (refine AW.reg mix ?_; (simp (implicitDefEqProofs := false) [↓callI, vopsN, vopsG, ↓step_slice, ↓Am.A.step, ↓binInt, ↓binStr, vopsE0, vopsE1, -vops]; try simp (disch := omega) only [w64, wu64])) | (refine need.of (by first | omega | kernel_rfl) ?_) | (refine AW.skip ?_; (try simp (implicitDefEqProofs := false) [↓callI, vopsN, vopsG, ↓step_slice, ↓Am.A.step, ↓binInt, ↓binStr, vopsE0, vopsE1, -vops])) | (refine AW.ret ?_; (try simp (implicitDefEqProofs := false) [↓callI, vopsN, vopsG, ↓step_slice, ↓Am.A.step, ↓binInt, ↓binStr, vopsE0, vopsE1, -vops])) | (refine AW.exit ?_; (try simp (implicitDefEqProofs := false) [↓callI, vopsN, vopsG, ↓step_slice, ↓Am.A.step, ↓binInt, ↓binStr, vopsE0, vopsE1, -vops])))
  refine CallS.pure (hc) (by first | exact plain_d _ | exact plain_tup2 _ _ | exact plain_tup3 _ _ _) rfl (fun _ => rfl) (Subs.refl _) ?_
  (try simp (implicitDefEqProofs := false) [↓callI, vopsN, vopsG, ↓step_slice, ↓Am.A.step, ↓binInt, ↓binStr, vopsE0, vopsE1, -vops]; try simp (disch := omega) only [w64, wu64])
  repeat (first | refine AW.seq ?_ | refine AW.block ?_ | (refine AW.reg mix ?_; (simp (implicitDefEqProofs := false) [↓callI, vopsN, vopsG, ↓step_slice, ↓Am.A.step, ↓binInt, ↓binStr, vopsE0, vopsE1, -vops]; try simp (disch := omega) only [w64, wu64])) | (refine need.of (by first | omega | kernel_rfl) ?_) | (refine AW.skip ?_; (try simp (implicitDefEqProofs := false) [↓callI, vopsN, vopsG, ↓step_slice, ↓Am.A.step, ↓binInt, ↓binStr, vopsE0, vopsE1, -vops])) | (refine AW.ret ?_; (try simp (implicitDefEqProofs := false) [↓callI, vopsN, vopsG, ↓step_slice, ↓Am.A.step, ↓binInt, ↓binStr, vopsE0, vopsE1, -vops])) | (refine AW.exit ?_; (try simp (implicitDefEqProofs := false) [↓callI, vopsN, vopsG, ↓step_slice, ↓Am.A.step, ↓binInt, ↓binStr, vopsE0, vopsE1, -vops])))
  refine AW.cond rfl (fun h => ?_) (fun h => ?_)
  · simp at h
  repeat (first | refine AW.seq ?_ | refine AW.block ?_ | (refine AW.reg mix ?_; (simp (implicitDefEqProofs := false) [↓callI, vopsN, vopsG, ↓step_slice, ↓Am.A.step, ↓binInt, ↓binStr, vopsE0, vopsE1, -vops]; try simp (disch := omega) only [w64, wu64])) | (refine need.of (by first | omega | kernel_rfl) ?_) | (refine AW.skip ?_; (try simp (implicitDefEqProofs := false) [↓callI, vopsN, vopsG, ↓step_slice, ↓Am.A.step, ↓binInt, ↓binStr, vopsE0, vopsE1, -vops])) | (refine AW.ret ?_; (try simp (implicitDefEqProofs := false) [↓callI, vopsN, vopsG, ↓step_slice, ↓Am.A.step, ↓binInt, ↓binStr, vopsE0, vopsE1, -vops])) | (refine AW.exit ?_; (try simp (implicitDefEqProofs := false) [↓callI, vopsN, vopsG, ↓step_slice, ↓Am.A.step, ↓binInt, ↓binStr, vopsE0, vopsE1, -vops])))
  refine AW.loopT (α := Nat) 1 (fun i => [(15, .d (.int .i64 (i : Int)))]) (fun i => []) (fun i => i ≤ 2) (fun i => 2 - i) 0 ?_ ?_ (Nat.zero_le _) ?_ ?_ ?_
  · simp
  · simp
  · simp
  · simp
  rintro i hi
  simp
  have g1 : ¬ x < 0 := by omega
  have g2 : ¬ (S : Int) < x := by omega
  have g3 : ¬ y < 0 := by omega
  have g4 : ¬ (S : Int) < y := by omega
  by_cases h : i = 2
  · subst h
    repeat (first | refine AW.seq ?_ | refine AW.block ?_ | (refine AW.reg mix ?_; (simp (implicitDefEqProofs := false) [↓callI, vopsN, vopsG, ↓step_slice, ↓Am.A.step, ↓binInt, ↓binStr, vopsE0, vopsE1, -vops]; try simp (disch := omega) only [w64, wu64])) | (refine need.of (by first | omega | kernel_rfl) ?_) | (refine AW.skip ?_; (try simp (implicitDefEqProofs := false) [↓callI, vopsN, vopsG, ↓step_slice, ↓Am.A.step, ↓binInt, ↓binStr, vopsE0, vopsE1, -vops])) | (refine AW.ret ?_; (try simp (implicitDefEqProofs := false) [↓callI, vopsN, vopsG, ↓step_slice, ↓Am.A.step, ↓binInt, ↓binStr, vopsE0, vopsE1, -vops])) | (refine AW.exit ?_; (try simp (implicitDefEqProofs := false) [↓callI, vopsN, vopsG, ↓step_slice, ↓Am.A.step, ↓binInt, ↓binStr, vopsE0, vopsE1, -vops])))
    refine AW.cond rfl (fun h => ?_) (fun h => ?_)
    · simp at h
    refine AW.exit ?_
    (try simp (implicitDefEqProofs := false) [↓callI, vopsN, vopsG, ↓step_slice, ↓Am.A.step, ↓binInt, ↓binStr, vopsE0, vopsE1, -vops]; try simp (disch := omega) only [w64, wu64])
    repeat (first | refine AW.seq ?_ | refine AW.block ?_ | (refine AW.reg mix ?_; (simp (implicitDefEqProofs := false) [↓callI, vopsN, vopsG, ↓step_slice, ↓Am.A.step, ↓binInt, ↓binStr, vopsE0, vopsE1, -vops]; try simp (disch := omega) only [w64, wu64])) | (refine need.of (by first | omega | kernel_rfl) ?_) | (refine AW.skip ?_; (try simp (implicitDefEqProofs := false) [↓callI, vopsN, vopsG, ↓step_slice, ↓Am.A.step, ↓binInt, ↓binStr, vopsE0, vopsE1, -vops])) | (refine AW.ret ?_; (try simp (implicitDefEqProofs := false) [↓callI, vopsN, vopsG, ↓step_slice, ↓Am.A.step, ↓binInt, ↓binStr, vopsE0, vopsE1, -vops])) | (refine AW.exit ?_; (try simp (implicitDefEqProofs := false) [↓callI, vopsN, vopsG, ↓step_slice, ↓Am.A.step, ↓binInt, ↓binStr, vopsE0, vopsE1, -vops])))
  · have hi' : i = 0 ∨ i = 1 := by omega
    rcases hi' with rfl | rfl
    · repeat (first | refine AW.seq ?_ | refine AW.block ?_ | (refine AW.reg mix ?_; (simp (implicitDefEqProofs := false) [↓callI, vopsN, vopsG, ↓step_slice, ↓Am.A.step, ↓binInt, ↓binStr, vopsE0, vopsE1, -vops]; try simp (disch := omega) only [w64, wu64])) | (refine need.of (by first | omega | kernel_rfl) ?_) | (refine AW.skip ?_; (try simp (implicitDefEqProofs := false) [↓callI, vopsN, vopsG, ↓step_slice, ↓Am.A.step, ↓binInt, ↓binStr, vopsE0, vopsE1, -vops])) | (refine AW.ret ?_; (try simp (implicitDefEqProofs := false) [↓callI, vopsN, vopsG, ↓step_slice, ↓Am.A.step, ↓binInt, ↓binStr, vopsE0, vopsE1, -vops])) | (refine AW.exit ?_; (try simp (implicitDefEqProofs := false) [↓callI, vopsN, vopsG, ↓step_slice, ↓Am.A.step, ↓binInt, ↓binStr, vopsE0, vopsE1, -vops])))
      refine AW.cond rfl (fun h => ?_) (fun h => ?_)
      · repeat (first | refine AW.seq ?_ | refine AW.block ?_ | (refine AW.reg mix ?_; (simp (implicitDefEqProofs := false) [↓callI, vopsN, vopsG, ↓step_slice, ↓Am.A.step, ↓binInt, ↓binStr, vopsE0, vopsE1, -vops, g1, g2]; try simp (disch := omega) only [w64, wu64])) | (refine need.of (by first | omega | kernel_rfl) ?_) | (refine AW.skip ?_; (try simp (implicitDefEqProofs := false) [↓callI, vopsN, vopsG, ↓step_slice, ↓Am.A.step, ↓binInt, ↓binStr, vopsE0, vopsE1, -vops, g1, g2])) | (refine AW.ret ?_; (try simp (implicitDefEqProofs := false) [↓callI, vopsN, vopsG, ↓step_slice, ↓Am.A.step, ↓binInt, ↓binStr, vopsE0, vopsE1, -vops, g1, g2])) | (refine AW.exit ?_; (try simp (implicitDefEqProofs := false) [↓callI, vopsN, vopsG, ↓step_slice, ↓Am.A.step, ↓binInt, ↓binStr, vopsE0, vopsE1, -vops, g1, g2])))
        refine CallS.pure (ht) (by first | exact plain_d _ | exact plain_tup2 _ _ | exact plain_tup3 _ _ _) rfl (fun _ => rfl) (Subs.refl _) ?_
        (try simp (implicitDefEqProofs := false) [↓callI, vopsN, vopsG, ↓step_slice, ↓Am.A.step, ↓binInt, ↓binStr, vopsE0, vopsE1, -vops, g1, g2]; try simp (disch := omega) only [w64, wu64])
        repeat (first | refine AW.seq ?_ | refine AW.block ?_ | (refine AW.reg mix ?_; (simp (implicitDefEqProofs := false) [↓callI, vopsN, vopsG, ↓step_slice, ↓Am.A.step, ↓binInt, ↓binStr, vopsE0, vopsE1, -vops, g1, g2]; try simp (disch := omega) only [w64, wu64])) | (refine need.of (by first | omega | kernel_rfl) ?_) | (refine AW.skip ?_; (try simp (implicitDefEqProofs := false) [↓callI, vopsN, vopsG, ↓step_slice, ↓Am.A.step, ↓binInt, ↓binStr, vopsE0, vopsE1, -vops, g1, g2])) | (refine AW.ret ?_; (try simp (implicitDefEqProofs := false) [↓callI, vopsN, vopsG, ↓step_slice, ↓Am.A.step, ↓binInt, ↓binStr, vopsE0, vopsE1, -vops, g1, g2])) | (refine AW.exit ?_; (try simp (implicitDefEqProofs := false) [↓callI, vopsN, vopsG, ↓step_slice, ↓Am.A.step, ↓binInt, ↓binStr, vopsE0, vopsE1, -vops, g1, g2])))
        refine AW.cond rfl (fun h => ?_) (fun h => ?_)
        · simp [g1, g2] at h
        have ew : IntKind.i64.wrap 1 = 1 := w64 (by omega) (by omega)
        repeat (first | refine AW.seq ?_ | refine AW.block ?_ | (refine AW.reg mix ?_; (simp (implicitDefEqProofs := false) [↓callI, vopsN, vopsG, ↓step_slice, ↓Am.A.step, ↓binInt, ↓binStr, vopsE0, vopsE1, -vops, ew]; try simp (disch := omega) only [w64, wu64])) | (refine need.of (by first | omega | kernel_rfl) ?_) | (refine AW.skip ?_; (try simp (implicitDefEqProofs := false) [↓callI, vopsN, vopsG, ↓step_slice, ↓Am.A.step, ↓binInt, ↓binStr, vopsE0, vopsE1, -vops, ew])) | (refine AW.ret ?_; (try simp (implicitDefEqProofs := false) [↓callI, vopsN, vopsG, ↓step_slice, ↓Am.A.step, ↓binInt, ↓binStr, vopsE0, vopsE1, -vops, ew])) | (refine AW.exit ?_; (try simp (implicitDefEqProofs := false) [↓callI, vopsN, vopsG, ↓step_slice, ↓Am.A.step, ↓binInt, ↓binStr, vopsE0, vopsE1, -vops, ew])))
        exact ⟨1, by omega, by omega, by simp⟩
      · simp at h
    · repeat (first | refine AW.seq ?_ | refine AW.block ?_ | (refine AW.reg mix ?_; (simp (implicitDefEqProofs := false) [↓callI, vopsN, vopsG, ↓step_slice, ↓Am.A.step, ↓binInt, ↓binStr, vopsE0, vopsE1, -vops]; try simp (disch := omega) only [w64, wu64])) | (refine need.of (by first | omega | kernel_rfl) ?_) | (refine AW.skip ?_; (try simp (implicitDefEqProofs := false) [↓callI, vopsN, vopsG, ↓step_slice, ↓Am.A.step, ↓binInt, ↓binStr, vopsE0, vopsE1, -vops])) | (refine AW.ret ?_; (try simp (implicitDefEqProofs := false) [↓callI, vopsN, vopsG, ↓step_slice, ↓Am.A.step, ↓binInt, ↓binStr, vopsE0, vopsE1, -vops])) | (refine AW.exit ?_; (try simp (implicitDefEqProofs := false) [↓callI, vopsN, vopsG, ↓step_slice, ↓Am.A.step, ↓binInt, ↓binStr, vopsE0, vopsE1, -vops])))
      refine AW.cond rfl (fun h => ?_) (fun h => ?_)
      · repeat (first | refine AW.seq ?_ | refine AW.block ?_ | (refine AW.reg mix ?_; (simp (implicitDefEqProofs := false) [↓callI, vopsN, vopsG, ↓step_slice, ↓Am.A.step, ↓binInt, ↓binStr, vopsE0, vopsE1, -vops, g3, g4]; try simp (disch := omega) only [w64, wu64])) | (refine need.of (by first | omega | kernel_rfl) ?_) | (refine AW.skip ?_; (try simp (implicitDefEqProofs := false) [↓callI, vopsN, vopsG, ↓step_slice, ↓Am.A.step, ↓binInt, ↓binStr, vopsE0, vopsE1, -vops, g3, g4])) | (refine AW.ret ?_; (try simp (implicitDefEqProofs := false) [↓callI, vopsN, vopsG, ↓step_slice, ↓Am.A.step, ↓binInt, ↓binStr, vopsE0, vopsE1, -vops, g3, g4])) | (refine AW.exit ?_; (try simp (implicitDefEqProofs := false) [↓callI, vopsN, vopsG, ↓step_slice, ↓Am.A.step, ↓binInt, ↓binStr, vopsE0, vopsE1, -vops, g3, g4])))
        refine CallS.pure (ht) (by first | exact plain_d _ | exact plain_tup2 _ _ | exact plain_tup3 _ _ _) rfl (fun _ => rfl) (Subs.refl _) ?_
        (try simp (implicitDefEqProofs := false) [↓callI, vopsN, vopsG, ↓step_slice, ↓Am.A.step, ↓binInt, ↓binStr, vopsE0, vopsE1, -vops, g3, g4]; try simp (disch := omega) only [w64, wu64])
        repeat (first | refine AW.seq ?_ | refine AW.block ?_ | (refine AW.reg mix ?_; (simp (implicitDefEqProofs := false) [↓callI, vopsN, vopsG, ↓step_slice, ↓Am.A.step, ↓binInt, ↓binStr, vopsE0, vopsE1, -vops, g3, g4]; try simp (disch := omega) only [w64, wu64])) | (refine need.of (by first | omega | kernel_rfl) ?_) | (refine AW.skip ?_; (try simp (implicitDefEqProofs := false) [↓callI, vopsN, vopsG, ↓step_slice, ↓Am.A.step, ↓binInt, ↓binStr, vopsE0, vopsE1, -vops, g3, g4])) | (refine AW.ret ?_; (try simp (implicitDefEqProofs := false) [↓callI, vopsN, vopsG, ↓step_slice, ↓Am.A.step, ↓binInt, ↓binStr, vopsE0, vopsE1, -vops, g3, g4])) | (refine AW.exit ?_; (try simp (implicitDefEqProofs := false) [↓callI, vopsN, vopsG, ↓step_slice, ↓Am.A.step, ↓binInt, ↓binStr, vopsE0, vopsE1, -vops, g3, g4])))
        refine AW.cond rfl (fun h => ?_) (fun h => ?_)
        · simp [g3, g4] at h
        have ew : IntKind.i64.wrap 2 = 2 := w64 (by omega) (by omega)
        repeat (first | refine AW.seq ?_ | refine AW.block ?_ | (refine AW.reg mix ?_; (simp (implicitDefEqProofs := false) [↓callI, vopsN, vopsG, ↓step_slice, ↓Am.A.step, ↓binInt, ↓binStr, vopsE0, vopsE1, -vops, ew]; try simp (disch := omega) only [w64, wu64])) | (refine need.of (by first | omega | kernel_rfl) ?_) | (refine AW.skip ?_; (try simp (implicitDefEqProofs := false) [↓callI, vopsN, vopsG, ↓step_slice, ↓Am.A.step, ↓binInt, ↓binStr, vopsE0, vopsE1, -vops, ew])) | (refine AW.ret ?_; (try simp (implicitDefEqProofs := false) [↓callI, vopsN, vopsG, ↓step_slice, ↓Am.A.step, ↓binInt, ↓binStr, vopsE0, vopsE1, -vops, ew])) | (refine AW.exit ?_; (try simp (implicitDefEqProofs := false) [↓callI, vopsN, vopsG, ↓step_slice, ↓Am.A.step, ↓binInt, ↓binStr, vopsE0, vopsE1, -vops, ew])))
        exact ⟨2, by omega, by omega, by simp⟩
      · simp at h

theorem merge_start (cs : List Bool) (k a : Int) (w : Nat) (w2 : w ≤ 10) (ti : TypeId) (d : D) (g : FuncId) (ag : AgT) (hst : AgainOf cs ti d g ag) (hk : kindD k a = .ifc ti d) (hc : Eqn Tryz.prog n_chain_Param_Check [.d (parD k a w)] [] (.d (.int .i64 0)) [])
    (x : Nat) (hx : x ≤ 2 ^ w - 1) (f : Bool) (n : Nat) (hn : n ≤ 2 ^ w - 1) (fo : Bool) (p : Nat) (dd : Bool) (hp : p ≤ cs.length) (S : Int × Nat × Bool × Nat × Bool) (hS : S = mergeL ag (2 ^ w - 1) n 0 x f p dd) :
    Eqn Tryz.prog n_chain_Param_Merge [.d (parD k a w), .p 0 0, .d (.agg [.int .i64 x, .bool f]), .d (.agg [.int .i64 n, .bool fo])] [tapeO cs p dd] (.tup [.d (.agg [.int .i64 (if S.1 = 0 then S.2.1 else x : Nat), .bool (if S.1 = 0 then S.2.2.1 || fo else f)]), .d (.int .i64 S.1)]) [tapeO cs S.2.2.2.1 S.2.2.2.2] := by
  refine Eqn.obj1 r_chain_Param_Merge (plain_tup2 _ _) ⟨rfl, fun _ => rfl⟩ ?_
  have hat := at_ok2 k a w w2 x n (by omega) (by omega) (by omega) (by omega) hc
  have hkd := kind_ok k a w
  rw [hk] at hkd
  simp only [c_chain_Param_Merge, parD] at hat ⊢
  have hmx : ∀ (T1 t2 T3 : TypeId) (i z q : Nat) (b y : Bool), z < 2 ^ w - 1 → i ≤ 1023 → q ≤ cs.length → _ := fun T1 t2 T3 i z q b y hz hi hq => on_stepM (T1 := T1) (t2 := t2) (T3 := T3) k a i w w2 y hz hc hst.meth (hst.run z i q b (by have := Nat.pow_le_pow_right (n := 2) (by omega) w2; omega) hi hq)
  have hmt := fun (T1 t2 T3 : TypeId) (i q : Nat) (b y : Bool) => on_topM (T1 := T1) (t2 := t2) (T3 := T3) (ti := ti) (d := d) (cs := cs) (p := q) (dd := b) k a i w w2 y hc
  have hle := hst.le
  have h2 : 2 ^ w - 1 ≤ 1023 := by have := Nat.pow_le_pow_right (n := 2) (by omega) w2; omega
  simp only [parD] at hmx hmt
  generalize 2 ^ w - 1 = W at *
  repeat (first | refine AW.seq ?_ | refine AW.block ?_ | (refine AW.reg mix ?_; (simp (implicitDefEqProofs := false) [↓callI, vopsN, vopsG, ↓step_slice, ↓Am.A.step, ↓binInt, ↓binStr, vopsE0, vopsE1, -vops, -Bool.exists_bool]; try simp (disch := omega) only [w64, wu64])) | (refine need.of (by first | omega | kernel_rfl) ?_) | (refine AW.skip ?_; (try simp (implicitDefEqProofs := false) [↓callI, vopsN, vopsG, ↓step_slice, ↓Am.A.step, ↓binInt, ↓binStr, vopsE0, vopsE1, -vops, -Bool.exists_bool])) | (refine AW.ret ?_; (try simp (implicitDefEqProofs := false) [↓callI, vopsN, vopsG, ↓step_slice, ↓Am.A.step, ↓binInt, ↓binStr, vopsE0, vopsE1, -vops, -Bool.exists_bool])) | (refine AW.exit ?_; (try simp (implicitDefEqProofs := false) [↓callI, vopsN, vopsG, ↓step_slice, ↓Am.A.step, ↓binInt, ↓binStr, vopsE0, vopsE1, -vops, -Bool.exists_bool])))
  refine CallS.pureF 6 1 ⟨3, _⟩ [.int .i64 x, .int .i64 n] (hat) (by first | exact plain_d _ | exact plain_tup2 _ _ | exact plain_tup3 _ _ _) rfl (fun _ => rfl) (by rfl) (by simp) (Subs.of ?_) ?_
  focus first | rfl | (simp [-Bool.exists_bool]; done) | skip
  rotate_left
  (try simp (implicitDefEqProofs := false) [↓callI, vopsN, vopsG, ↓step_slice, ↓Am.A.step, ↓binInt, ↓binStr, vopsE0, vopsE1, -vops, -Bool.exists_bool]; try simp (disch := omega) only [w64, wu64])
  repeat (first | refine AW.seq ?_ | refine AW.block ?_ | (refine AW.reg mix ?_; (simp (implicitDefEqProofs := false) [↓callI, vopsN, vopsG, ↓step_slice, ↓Am.A.step, ↓binInt, ↓binStr, vopsE0, vopsE1, -vops, -Bool.exists_bool]; try simp (disch := omega) only [w64, wu64])) | (refine need.of (by first | omega | kernel_rfl) ?_) | (refine AW.skip ?_; (try simp (implicitDefEqProofs := false) [↓callI, vopsN, vopsG, ↓step_slice, ↓Am.A.step, ↓binInt, ↓binStr, vopsE0, vopsE1, -vops, -Bool.exists_bool])) | (refine AW.ret ?_; (try simp (implicitDefEqProofs := false) [↓callI, vopsN, vopsG, ↓step_slice, ↓Am.A.step, ↓binInt, ↓binStr, vopsE0, vopsE1, -vops, -Bool.exists_bool])) | (refine AW.exit ?_; (try simp (implicitDefEqProofs := false) [↓callI, vopsN, vopsG, ↓step_slice, ↓Am.A.step, ↓binInt, ↓binStr, vopsE0, vopsE1, -vops, -Bool.exists_bool])))
  refine AW.cond rfl (fun h => ?_) (fun h => ?_)
  · simp at h
  clear h
  repeat (first | refine AW.seq ?_ | refine AW.block ?_ | (refine AW.reg mix ?_; (simp (implicitDefEqProofs := false) [↓callI, vopsN, vopsG, ↓step_slice, ↓Am.A.step, ↓binInt, ↓binStr, vopsE0, vopsE1, -vops, -Bool.exists_bool]; try simp (disch := omega) only [w64, wu64])) | (refine need.of (by first | omega | kernel_rfl) ?_) | (refine AW.skip ?_; (try simp (implicitDefEqProofs := false) [↓callI, vopsN, vopsG, ↓step_slice, ↓Am.A.step, ↓binInt, ↓binStr, vopsE0, vopsE1, -vops, -Bool.exists_bool])) | (refine AW.ret ?_; (try simp (implicitDefEqProofs := false) [↓callI, vopsN, vopsG, ↓step_slice, ↓Am.A.step, ↓binInt, ↓binStr, vopsE0, vopsE1, -vops, -Bool.exists_bool])) | (refine AW.exit ?_; (try simp (implicitDefEqProofs := false) [↓callI, vopsN, vopsG, ↓step_slice, ↓Am.A.step, ↓binInt, ↓binStr, vopsE0, vopsE1, -vops, -Bool.exists_bool])))
  refine CallS.pure (hkd) (by first | exact plain_d _ | exact plain_tup2 _ _ | exact plain_tup3 _ _ _) rfl (fun _ => rfl) (Subs.refl _) ?_
  (try simp (implicitDefEqProofs := false) [↓callI, vopsN, vopsG, ↓step_slice, ↓Am.A.step, ↓binInt, ↓binStr, vopsE0, vopsE1, -vops, -Bool.exists_bool]; try simp (disch := omega) only [w64, wu64])
  repeat (first | refine AW.seq ?_ | refine AW.block ?_ | (refine AW.reg mix ?_; (simp (implicitDefEqProofs := false) [↓callI, vopsN, vopsG, ↓step_slice, ↓Am.A.step, ↓binInt, ↓binStr, vopsE0, vopsE1, -vops, -Bool.exists_bool]; try simp (disch := omega) only [w64, wu64])) | (refine need.of (by first | omega | kernel_rfl) ?_) | (refine AW.skip ?_; (try simp (implicitDefEqProofs := false) [↓callI, vopsN, vopsG, ↓step_slice, ↓Am.A.step, ↓binInt, ↓binStr, vopsE0, vopsE1, -vops, -Bool.exists_bool])) | (refine AW.ret ?_; (try simp (implicitDefEqProofs := false) [↓callI, vopsN, vopsG, ↓step_slice, ↓Am.A.step, ↓binInt, ↓binStr, vopsE0, vopsE1, -vops, -Bool.exists_bool])) | (refine AW.exit ?_; (try simp (implicitDefEqProofs := false) [↓callI, vopsN, vopsG, ↓step_slice, ↓Am.A.step, ↓binInt, ↓binStr, vopsE0, vopsE1, -vops, -Bool.exists_bool])))
  refine AW.loopT (α := Nat × Nat × Bool × Nat × Bool) 9 (fun s => [(31, .d (.int .i64 (s.1 : Int)))]) (fun s => [(0, tapeO cs s.2.2.2.1 s.2.2.2.2), (8, ⟨35, [.d (.int .i64 (s.2.1 : Nat)), .d (.bool s.2.2.1)]⟩)]) (fun s => s.1 ≤ n ∧ s.2.1 ≤ W ∧ s.2.2.2.1 ≤ cs.length ∧ S = mergeL ag W (n - s.1) s.1 s.2.1 s.2.2.1 s.2.2.2.1 s.2.2.2.2) (fun s => n - s.1) (0, x, f, p, dd) ?_ ?_ ⟨Nat.zero_le _, hx, hp, hS⟩ ?_ ?_ ?_
  · simp
  · simp
  · simp
  · simp
  rintro ⟨i, z, y, q, b⟩ ⟨hi, hz, hq, hS⟩
  simp only at hi hz hq hS
  simp [-Bool.exists_bool]
  by_cases h : i = n
  · subst h
    rw [Nat.sub_self, mergeL] at hS
    repeat (first | refine AW.seq ?_ | refine AW.block ?_ | (refine AW.reg mix ?_; (simp (implicitDefEqProofs := false) [↓callI, vopsN, vopsG, ↓step_slice, ↓Am.A.step, ↓binInt, ↓binStr, vopsE0, vopsE1, -vops, -Bool.exists_bool]; try simp (disch := omega) only [w64, wu64])) | (refine need.of (by first | omega | kernel_rfl) ?_) | (refine AW.skip ?_; (try simp (implicitDefEqProofs := false) [↓callI, vopsN, vopsG, ↓step_slice, ↓Am.A.step, ↓binInt, ↓binStr, vopsE0, vopsE1, -vops, -Bool.exists_bool])) | (refine AW.ret ?_; (try simp (implicitDefEqProofs := false) [↓callI, vopsN, vopsG, ↓step_slice, ↓Am.A.step, ↓binInt, ↓binStr, vopsE0, vopsE1, -vops, -Bool.exists_bool])) | (refine AW.exit ?_; (try simp (implicitDefEqProofs := false) [↓callI, vopsN, vopsG, ↓step_slice, ↓Am.A.step, ↓binInt, ↓binStr, vopsE0, vopsE1, -vops, -Bool.exists_bool])))
    refine AW.cond rfl (fun h => ?_) (fun h => ?_)
    · simp at h
    refine AW.exit ?_
    (try simp (implicitDefEqProofs := false) [↓callI, vopsN, vopsG, ↓step_slice, ↓Am.A.step, ↓binInt, ↓binStr, vopsE0, vopsE1, -vops, -Bool.exists_bool]; try simp (disch := omega) only [w64, wu64])
    cases y with
    | true =>
      repeat (first | refine AW.seq ?_ | refine AW.block ?_ | (refine AW.reg mix ?_; (simp (implicitDefEqProofs := false) [↓callI, vopsN, vopsG, ↓step_slice, ↓Am.A.step, ↓binInt, ↓binStr, vopsE0, vopsE1, -vops, -Bool.exists_bool]; try simp (disch := omega) only [w64, wu64])) | (refine need.of (by first | omega | kernel_rfl) ?_) | (refine AW.skip ?_; (try simp (implicitDefEqProofs := false) [↓callI, vopsN, vopsG, ↓step_slice, ↓Am.A.step, ↓binInt, ↓binStr, vopsE0, vopsE1, -vops, -Bool.exists_bool])) | (refine AW.ret ?_; (try simp (implicitDefEqProofs := false) [↓callI, vopsN, vopsG, ↓step_slice, ↓Am.A.step, ↓binInt, ↓binStr, vopsE0, vopsE1, -vops, -Bool.exists_bool])) | (refine AW.exit ?_; (try simp (implicitDefEqProofs := false) [↓callI, vopsN, vopsG, ↓step_slice, ↓Am.A.step, ↓binInt, ↓binStr, vopsE0, vopsE1, -vops, -Bool.exists_bool])))
      simp [hS]
    | false =>
      repeat (first | refine AW.seq ?_ | refine AW.block ?_ | (refine AW.reg mix ?_; (simp (implicitDefEqProofs := false) [↓callI, vopsN, vopsG, ↓step_slice, ↓Am.A.step, ↓binInt, ↓binStr, vopsE0, vopsE1, -vops, -Bool.exists_bool]; try simp (disch := omega) only [w64, wu64])) | (refine need.of (by first | omega | kernel_rfl) ?_) | (refine AW.skip ?_; (try simp (implicitDefEqProofs := false) [↓callI, vopsN, vopsG, ↓step_slice, ↓Am.A.step, ↓binInt, ↓binStr, vopsE0, vopsE1, -vops, -Bool.exists_bool])) | (refine AW.ret ?_; (try simp (implicitDefEqProofs := false) [↓callI, vopsN, vopsG, ↓step_slice, ↓Am.A.step, ↓binInt, ↓binStr, vopsE0, vopsE1, -vops, -Bool.exists_bool])) | (refine AW.exit ?_; (try simp (implicitDefEqProofs := false) [↓callI, vopsN, vopsG, ↓step_slice, ↓Am.A.step, ↓binInt, ↓binStr, vopsE0, vopsE1, -vops, -Bool.exists_bool])))
      simp [hS]
  · have hlt : (i : Int) < n := by omega
    have hlt' : i < n := by omega
    obtain ⟨r, hr⟩ : ∃ r, n - i = r + 1 := ⟨n - i - 1, by omega⟩
    have ew : IntKind.i64.wrap ((i : Int) + 1) = (i : Int) + 1 := w64 (by omega) (by omega)
    rw [hr, mergeL] at hS
    repeat (first | refine AW.seq ?_ | refine AW.block ?_ | (refine AW.reg mix ?_; (simp (implicitDefEqProofs := false) [↓callI, vopsN, vopsG, ↓step_slice, ↓Am.A.step, ↓binInt, ↓binStr, vopsE0, vopsE1, -vops, hlt, hlt', -Bool.exists_bool]; try simp (disch := omega) only [w64, wu64])) | (refine need.of (by first | omega | kernel_rfl) ?_) | (refine AW.skip ?_; (try simp (implicitDefEqProofs := false) [↓callI, vopsN, vopsG, ↓step_slice, ↓Am.A.step, ↓binInt, ↓binStr, vopsE0, vopsE1, -vops, hlt, hlt', -Bool.exists_bool])) | (refine AW.ret ?_; (try simp (implicitDefEqProofs := false) [↓callI, vopsN, vopsG, ↓step_slice, ↓Am.A.step, ↓binInt, ↓binStr, vopsE0, vopsE1, -vops, hlt, hlt', -Bool.exists_bool])) | (refine AW.exit ?_; (try simp (implicitDefEqProofs := false) [↓callI, vopsN, vopsG, ↓step_slice, ↓Am.A.step, ↓binInt, ↓binStr, vopsE0, vopsE1, -vops, hlt, hlt', -Bool.exists_bool])))
    refine AW.cond rfl (fun h => ?_) (fun h => ?_)
    · clear h
      by_cases hzt : z = W
      · subst hzt
        rw [if_pos rfl] at hS
        have hmt := fun T1 t2 T3 => hmt T1 t2 T3 i q b y
        repeat (first | refine AW.seq ?_ | refine AW.block ?_ | (refine AW.reg mix ?_; (simp (implicitDefEqProofs := false) [↓callI, vopsN, vopsG, ↓step_slice, ↓Am.A.step, ↓binInt, ↓binStr, vopsE0, vopsE1, -vops, -Bool.exists_bool]; try simp (disch := omega) only [w64, wu64])) | (refine need.of (by first | omega | kernel_rfl) ?_) | (refine AW.skip ?_; (try simp (implicitDefEqProofs := false) [↓callI, vopsN, vopsG, ↓step_slice, ↓Am.A.step, ↓binInt, ↓binStr, vopsE0, vopsE1, -vops, -Bool.exists_bool])) | (refine AW.ret ?_; (try simp (implicitDefEqProofs := false) [↓callI, vopsN, vopsG, ↓step_slice, ↓Am.A.step, ↓binInt, ↓binStr, vopsE0, vopsE1, -vops, -Bool.exists_bool])) | (refine AW.exit ?_; (try simp (implicitDefEqProofs := false) [↓callI, vopsN, vopsG, ↓step_slice, ↓Am.A.step, ↓binInt, ↓binStr, vopsE0, vopsE1, -vops, -Bool.exists_bool])))
        refine CallS.gen [0, 7, 2, 9] (hmt _ _ _) (by decide) (by first | ((repeat (first | exact obsAt_nil | refine obsAt_cons rfl rfl ?_)); done) | (simp; done) | skip) (by first | rfl | (simp; done)) (Subs.of (by first | rfl | (simp; done))) ?_
        (try simp (implicitDefEqProofs := false) [↓callI, vopsN, vopsG, ↓step_slice, ↓Am.A.step, ↓binInt, ↓binStr, vopsE0, vopsE1, -vops, -Bool.exists_bool]; try simp (disch := omega) only [w64, wu64])
        repeat (first | refine AW.seq ?_ | refine AW.block ?_ | (refine AW.reg mix ?_; (simp (implicitDefEqProofs := false) [↓callI, vopsN, vopsG, ↓step_slice, ↓Am.A.step, ↓binInt, ↓binStr, vopsE0, vopsE1, -vops, -Bool.exists_bool]; try simp (disch := omega) only [w64, wu64])) | (refine need.of (by first | omega | kernel_rfl) ?_) | (refine AW.skip ?_; (try simp (implicitDefEqProofs := false) [↓callI, vopsN, vopsG, ↓step_slice, ↓Am.A.step, ↓binInt, ↓binStr, vopsE0, vopsE1, -vops, -Bool.exists_bool])) | (refine AW.ret ?_; (try simp (implicitDefEqProofs := false) [↓callI, vopsN, vopsG, ↓step_slice, ↓Am.A.step, ↓binInt, ↓binStr, vopsE0, vopsE1, -vops, -Bool.exists_bool])) | (refine AW.exit ?_; (try simp (implicitDefEqProofs := false) [↓callI, vopsN, vopsG, ↓step_slice, ↓Am.A.step, ↓binInt, ↓binStr, vopsE0, vopsE1, -vops, -Bool.exists_bool])))
        refine AW.cond rfl (fun h => ?_) (fun h => ?_)
        · simp at h
        repeat (first | refine AW.seq ?_ | refine AW.block ?_ | (refine AW.reg mix ?_; (simp (implicitDefEqProofs := false) [↓callI, vopsN, vopsG, ↓step_slice, ↓Am.A.step, ↓binInt, ↓binStr, vopsE0, vopsE1, -vops, ew, -Bool.exists_bool]; try simp (disch := omega) only [w64, wu64])) | (refine need.of (by first | omega | kernel_rfl) ?_) | (refine AW.skip ?_; (try simp (implicitDefEqProofs := false) [↓callI, vopsN, vopsG, ↓step_slice, ↓Am.A.step, ↓binInt, ↓binStr, vopsE0, vopsE1, -vops, ew, -Bool.exists_bool])) | (refine AW.ret ?_; (try simp (implicitDefEqProofs := false) [↓callI, vopsN, vopsG, ↓step_slice, ↓Am.A.step, ↓binInt, ↓binStr, vopsE0, vopsE1, -vops, ew, -Bool.exists_bool])) | (refine AW.exit ?_; (try simp (implicitDefEqProofs := false) [↓callI, vopsN, vopsG, ↓step_slice, ↓Am.A.step, ↓binInt, ↓binStr, vopsE0, vopsE1, -vops, ew, -Bool.exists_bool])))
        exact ⟨i + 1, z, true, q, b, ⟨by omega, hz, hq, by rw [hS]; congr 1; omega⟩, by omega, by simp⟩
      · rw [if_neg hzt] at hS
        have hmx := fun T1 t2 T3 => hmx T1 t2 T3 i z q b y (by omega) (by omega) hq
        have hle := hle z i q b hq
        generalize ag z i q b = R at *
        obtain ⟨r1, r2, r3, r4⟩ := R
        simp only at hS hmx hle
        have hz' : (if r1 = true then z + 1 else z) ≤ W := by split <;> omega
        generalize (if r1 = true then z + 1 else z) = z' at *
        repeat (first | refine AW.seq ?_ | refine AW.block ?_ | (refine AW.reg mix ?_; (simp (implicitDefEqProofs := false) [↓callI, vopsN, vopsG, ↓step_slice, ↓Am.A.step, ↓binInt, ↓binStr, vopsE0, vopsE1, -vops, -Bool.exists_bool]; try simp (disch := omega) only [w64, wu64])) | (refine need.of (by first | omega | kernel_rfl) ?_) | (refine AW.skip ?_; (try simp (implicitDefEqProofs := false) [↓callI, vopsN, vopsG, ↓step_slice, ↓Am.A.step, ↓binInt, ↓binStr, vopsE0, vopsE1, -vops, -Bool.exists_bool])) | (refine AW.ret ?_; (try simp (implicitDefEqProofs := false) [↓callI, vopsN, vopsG, ↓step_slice, ↓Am.A.step, ↓binInt, ↓binStr, vopsE0, vopsE1, -vops, -Bool.exists_bool])) | (refine AW.exit ?_; (try simp (implicitDefEqProofs := false) [↓callI, vopsN, vopsG, ↓step_slice, ↓Am.A.step, ↓binInt, ↓binStr, vopsE0, vopsE1, -vops, -Bool.exists_bool])))
        refine CallS.gen [0, 7, 2, 9] (hmx _ _ _) (by decide) (by first | ((repeat (first | exact obsAt_nil | refine obsAt_cons rfl rfl ?_)); done) | (simp; done) | skip) (by first | rfl | (simp; done)) (Subs.of (by first | rfl | (simp; done))) ?_
        (try simp (implicitDefEqProofs := false) [↓callI, vopsN, vopsG, ↓step_slice, ↓Am.A.step, ↓binInt, ↓binStr, vopsE0, vopsE1, -vops, -Bool.exists_bool]; try simp (disch := omega) only [w64, wu64])
        repeat (first | refine AW.seq ?_ | refine AW.block ?_ | (refine AW.reg mix ?_; (simp (implicitDefEqProofs := false) [↓callI, vopsN, vopsG, ↓step_slice, ↓Am.A.step, ↓binInt, ↓binStr, vopsE0, vopsE1, -vops, -Bool.exists_bool]; try simp (disch := omega) only [w64, wu64])) | (refine need.of (by first | omega | kernel_rfl) ?_) | (refine AW.skip ?_; (try simp (implicitDefEqProofs := false) [↓callI, vopsN, vopsG, ↓step_slice, ↓Am.A.step, ↓binInt, ↓binStr, vopsE0, vopsE1, -vops, -Bool.exists_bool])) | (refine AW.ret ?_; (try simp (implicitDefEqProofs := false) [↓callI, vopsN, vopsG, ↓step_slice, ↓Am.A.step, ↓binInt, ↓binStr, vopsE0, vopsE1, -vops, -Bool.exists_bool])) | (refine AW.exit ?_; (try simp (implicitDefEqProofs := false) [↓callI, vopsN, vopsG, ↓step_slice, ↓Am.A.step, ↓binInt, ↓binStr, vopsE0, vopsE1, -vops, -Bool.exists_bool])))
        by_cases hr2 : r2 = 0
        · subst hr2
          rw [if_pos rfl] at hS
          refine AW.cond rfl (fun h => ?_) (fun h => ?_)
          · simp at h
          repeat (first | refine AW.seq ?_ | refine AW.block ?_ | (refine AW.reg mix ?_; (simp (implicitDefEqProofs := false) [↓callI, vopsN, vopsG, ↓step_slice, ↓Am.A.step, ↓binInt, ↓binStr, vopsE0, vopsE1, -vops, ew, -Bool.exists_bool]; try simp (disch := omega) only [w64, wu64])) | (refine need.of (by first | omega | kernel_rfl) ?_) | (refine AW.skip ?_; (try simp (implicitDefEqProofs := false) [↓callI, vopsN, vopsG, ↓step_slice, ↓Am.A.step, ↓binInt, ↓binStr, vopsE0, vopsE1, -vops, ew, -Bool.exists_bool])) | (refine AW.ret ?_; (try simp (implicitDefEqProofs := false) [↓callI, vopsN, vopsG, ↓step_slice, ↓Am.A.step, ↓binInt, ↓binStr, vopsE0, vopsE1, -vops, ew, -Bool.exists_bool])) | (refine AW.exit ?_; (try simp (implicitDefEqProofs := false) [↓callI, vopsN, vopsG, ↓step_slice, ↓Am.A.step, ↓binInt, ↓binStr, vopsE0, vopsE1, -vops, ew, -Bool.exists_bool])))
          exact ⟨i + 1, z', y, r3, r4, ⟨by omega, hz', hle, by rw [hS]; congr 1; omega⟩, by omega, by simp⟩
        · rw [if_neg hr2] at hS
          refine AW.cond rfl (fun h => ?_) (fun h => ?_)
          · repeat (first | refine AW.seq ?_ | refine AW.block ?_ | (refine AW.reg mix ?_; (simp (implicitDefEqProofs := false) [↓callI, vopsN, vopsG, ↓step_slice, ↓Am.A.step, ↓binInt, ↓binStr, vopsE0, vopsE1, -vops, -Bool.exists_bool]; try simp (disch := omega) only [w64, wu64])) | (refine need.of (by first | omega | kernel_rfl) ?_) | (refine AW.skip ?_; (try simp (implicitDefEqProofs := false) [↓callI, vopsN, vopsG, ↓step_slice, ↓Am.A.step, ↓binInt, ↓binStr, vopsE0, vopsE1, -vops, -Bool.exists_bool])) | (refine AW.ret ?_; (try simp (implicitDefEqProofs := false) [↓callI, vopsN, vopsG, ↓step_slice, ↓Am.A.step, ↓binInt, ↓binStr, vopsE0, vopsE1, -vops, -Bool.exists_bool])) | (refine AW.exit ?_; (try simp (implicitDefEqProofs := false) [↓callI, vopsN, vopsG, ↓step_slice, ↓Am.A.step, ↓binInt, ↓binStr, vopsE0, vopsE1, -vops, -Bool.exists_bool])))
            simp [hS, hr2]
          · simp [hr2] at h
    · simp [hlt'] at h
end
end Go.Proofs.YtakjegcjeffmgaaGreat.Am
namespace Go.Proofs.YtakjegcjeffmgaaGreat.Am
section
open Go.RowKit
set_option maxRecDepth 100000
set_option linter.unusedSimpArgs false
set_option linter.unusedVariables false

/-- the document's answer, as data -/
def outD (p : Nat) (R : Bool × Int × Nat × Bool) : D := .agg [.bool R.1, .int .i64 (R.2.2.1 - p : Nat), .int .i64 R.2.1]

theorem dHalf_ok (cs : List Bool) (p : Nat) (k : Int) (hk : k ≤ 4000000) (hp : p ≤ cs.length) (hn : cs.length ≤ 4000000) : Eqn Tryz.prog n_Tref10_Half [.d (BL cs), .d (.int .i64 p), .d (.int .i64 k)] [] (.d (outD p (halfR cs k.toNat p false))) [] := by
  refine Eqn.pure r_Tref10_Half (plain_d _) ?_
  simp only [c_Tref10_Half, BL]
  obtain ⟨K, hK⟩ : ∃ K : Nat, K = k.toNat := ⟨_, rfl⟩
  rw [← hK]
  obtain ⟨R, hR⟩ : ∃ R, R = halfR cs K p false := ⟨_, rfl⟩
  rw [← hR]
  repeat (first | refine AW.seq ?_ | refine AW.block ?_ | (refine AW.reg mix ?_; (simp (implicitDefEqProofs := false) [↓callI, vopsN, vopsG, ↓step_slice, ↓Am.A.step, ↓binInt, ↓binStr, vopsE0, vopsE1, -vops]; try simp (disch := omega) only [w64, wu64])) | (refine need.of (by first | omega | kernel_rfl) ?_) | (refine AW.skip ?_; (try simp (implicitDefEqProofs := false) [↓callI, vopsN, vopsG, ↓step_slice, ↓Am.A.step, ↓binInt, ↓binStr, vopsE0, vopsE1, -vops])) | (refine AW.ret ?_; (try simp (implicitDefEqProofs := false) [↓callI, vopsN, vopsG, ↓step_slice, ↓Am.A.step, ↓binInt, ↓binStr, vopsE0, vopsE1, -vops])) | (refine AW.exit ?_; (try simp (implicitDefEqProofs := false) [↓callI, vopsN, vopsG, ↓step_slice, ↓Am.A.step, ↓binInt, ↓binStr, vopsE0, vopsE1, -vops])))
  refine AW.loopT (α := Nat) 1 (fun i => [(7, .d (.int .i64 (i : Int)))]) (fun i => []) (fun i => i ≤ K ∧ p + i ≤ cs.length ∧ R = halfR cs (K - i) (p + i) false) (fun i => K - i) 0 ?_ ?_ ⟨Nat.zero_le _, hp, hR⟩ ?_ ?_ ?_
  · simp
  · simp
  · simp
  · simp
  rintro i ⟨hi, hp2, hR⟩
  simp
  obtain ⟨Q, hQ⟩ : ∃ Q, Q = p + i := ⟨_, rfl⟩
  rw [← hQ] at hR hp2
  have e1 : IntKind.i64.wrap ((p : Int) + (i : Int)) = (Q : Int) := by rw [w64 (by omega) (by omega)]; omega
  by_cases h : i = K
  · have h1 : ¬ (i : Int) < k := by omega
    rw [show K - i = 0 by omega, halfR] at hR
    repeat (first | refine AW.seq ?_ | refine AW.block ?_ | (refine AW.reg mix ?_; (simp (implicitDefEqProofs := false) [↓callI, vopsN, vopsG, ↓step_slice, ↓Am.A.step, ↓binInt, ↓binStr, vopsE0, vopsE1, -vops, h1]; try simp (disch := omega) only [w64, wu64])) | (refine need.of (by first | omega | kernel_rfl) ?_) | (refine AW.skip ?_; (try simp (implicitDefEqProofs := false) [↓callI, vopsN, vopsG, ↓step_slice, ↓Am.A.step, ↓binInt, ↓binStr, vopsE0, vopsE1, -vops, h1])) | (refine AW.ret ?_; (try simp (implicitDefEqProofs := false) [↓callI, vopsN, vopsG, ↓step_slice, ↓Am.A.step, ↓binInt, ↓binStr, vopsE0, vopsE1, -vops, h1])) | (refine AW.exit ?_; (try simp (implicitDefEqProofs := false) [↓callI, vopsN, vopsG, ↓step_slice, ↓Am.A.step, ↓binInt, ↓binStr, vopsE0, vopsE1, -vops, h1])))
    refine AW.cond rfl (fun h => ?_) (fun h => ?_)
    · simp [h1] at h
    repeat (first | refine AW.seq ?_ | refine AW.block ?_ | (refine AW.reg mix ?_; (simp (implicitDefEqProofs := false) [↓callI, vopsN, vopsG, ↓step_slice, ↓Am.A.step, ↓binInt, ↓binStr, vopsE0, vopsE1, -vops]; try simp (disch := omega) only [w64, wu64])) | (refine need.of (by first | omega | kernel_rfl) ?_) | (refine AW.skip ?_; (try simp (implicitDefEqProofs := false) [↓callI, vopsN, vopsG, ↓step_slice, ↓Am.A.step, ↓binInt, ↓binStr, vopsE0, vopsE1, -vops])) | (refine AW.ret ?_; (try simp (implicitDefEqProofs := false) [↓callI, vopsN, vopsG, ↓step_slice, ↓Am.A.step, ↓binInt, ↓binStr, vopsE0, vopsE1, -vops])) | (refine AW.exit ?_; (try simp (implicitDefEqProofs := false) [↓callI, vopsN, vopsG, ↓step_slice, ↓Am.A.step, ↓binInt, ↓binStr, vopsE0, vopsE1, -vops])))
    refine AW.cond rfl (fun h => ?_) (fun h => ?_)
    · have hk0 : k < 0 := by simpa using h
      repeat (first | refine AW.seq ?_ | refine AW.block ?_ | (refine AW.reg mix ?_; (simp (implicitDefEqProofs := false) [↓callI, vopsN, vopsG, ↓step_slice, ↓Am.A.step, ↓binInt, ↓binStr, vopsE0, vopsE1, -vops]; try simp (disch := omega) only [w64, wu64])) | (refine need.of (by first | omega | kernel_rfl) ?_) | (refine AW.skip ?_; (try simp (implicitDefEqProofs := false) [↓callI, vopsN, vopsG, ↓step_slice, ↓Am.A.step, ↓binInt, ↓binStr, vopsE0, vopsE1, -vops])) | (refine AW.ret ?_; (try simp (implicitDefEqProofs := false) [↓callI, vopsN, vopsG, ↓step_slice, ↓Am.A.step, ↓binInt, ↓binStr, vopsE0, vopsE1, -vops])) | (refine AW.exit ?_; (try simp (implicitDefEqProofs := false) [↓callI, vopsN, vopsG, ↓step_slice, ↓Am.A.step, ↓binInt, ↓binStr, vopsE0, vopsE1, -vops])))
      refine Sub1.of ?_
      simp [outD, hR]; omega
    · have hk0 : 0 ≤ k := by simpa using h
      repeat (first | refine AW.seq ?_ | refine AW.block ?_ | (refine AW.reg mix ?_; (simp (implicitDefEqProofs := false) [↓callI, vopsN, vopsG, ↓step_slice, ↓Am.A.step, ↓binInt, ↓binStr, vopsE0, vopsE1, -vops]; try simp (disch := omega) only [w64, wu64])) | (refine need.of (by first | omega | kernel_rfl) ?_) | (refine AW.skip ?_; (try simp (implicitDefEqProofs := false) [↓callI, vopsN, vopsG, ↓step_slice, ↓Am.A.step, ↓binInt, ↓binStr, vopsE0, vopsE1, -vops])) | (refine AW.ret ?_; (try simp (implicitDefEqProofs := false) [↓callI, vopsN, vopsG, ↓step_slice, ↓Am.A.step, ↓binInt, ↓binStr, vopsE0, vopsE1, -vops])) | (refine AW.exit ?_; (try simp (implicitDefEqProofs := false) [↓callI, vopsN, vopsG, ↓step_slice, ↓Am.A.step, ↓binInt, ↓binStr, vopsE0, vopsE1, -vops])))
      refine Sub1.of ?_
      simp [outD, hR]; omega
  · have h1 : (i : Int) < k := by omega
    have e2 : IntKind.i64.wrap ((i : Int) + 1) = ((i + 1 : Nat) : Int) := by rw [w64 (by omega) (by omega)]; omega
    obtain ⟨r, hr⟩ : ∃ r, K - i = r + 1 := ⟨K - i - 1, by omega⟩
    rw [hr, halfR] at hR
    repeat (first | refine AW.seq ?_ | refine AW.block ?_ | (refine AW.reg mix ?_; (simp (implicitDefEqProofs := false) [↓callI, vopsN, vopsG, ↓step_slice, ↓Am.A.step, ↓binInt, ↓binStr, vopsE0, vopsE1, -vops, h1]; try simp (disch := omega) only [w64, wu64])) | (refine need.of (by first | omega | kernel_rfl) ?_) | (refine AW.skip ?_; (try simp (implicitDefEqProofs := false) [↓callI, vopsN, vopsG, ↓step_slice, ↓Am.A.step, ↓binInt, ↓binStr, vopsE0, vopsE1, -vops, h1])) | (refine AW.ret ?_; (try simp (implicitDefEqProofs := false) [↓callI, vopsN, vopsG, ↓step_slice, ↓Am.A.step, ↓binInt, ↓binStr, vopsE0, vopsE1, -vops, h1])) | (refine AW.exit ?_; (try simp (implicitDefEqProofs := false) [↓callI, vopsN, vopsG, ↓step_slice, ↓Am.A.step, ↓binInt, ↓binStr, vopsE0, vopsE1, -vops, h1])))
    refine AW.cond rfl (fun h => ?_) (fun h => ?_)
    · by_cases hl : Q < cs.length
      · have hg : cs.getD Q false = cs[Q] := by simp [List.getD, hl]
        have hlq : ¬ Q = cs.length := by omega
        have hlz : ¬ (cs.length : Int) ≤ Q := by omega
        simp only [flipB, flipE, flipP, flipD, hg, hlq, or_false, Bool.false_eq_true, if_false] at hR
        repeat (first | refine AW.seq ?_ | refine AW.block ?_ | (refine AW.reg mix ?_; (simp (implicitDefEqProofs := false) [↓callI, vopsN, vopsG, ↓step_slice, ↓Am.A.step, ↓binInt, ↓binStr, vopsE0, vopsE1, -vops, e1, hl, hlz]; try simp (disch := omega) only [w64, wu64])) | (refine need.of (by first | omega | kernel_rfl) ?_) | (refine AW.skip ?_; (try simp (implicitDefEqProofs := false) [↓callI, vopsN, vopsG, ↓step_slice, ↓Am.A.step, ↓binInt, ↓binStr, vopsE0, vopsE1, -vops, e1, hl, hlz])) | (refine AW.ret ?_; (try simp (implicitDefEqProofs := false) [↓callI, vopsN, vopsG, ↓step_slice, ↓Am.A.step, ↓binInt, ↓binStr, vopsE0, vopsE1, -vops, e1, hl, hlz])) | (refine AW.exit ?_; (try simp (implicitDefEqProofs := false) [↓callI, vopsN, vopsG, ↓step_slice, ↓Am.A.step, ↓binInt, ↓binStr, vopsE0, vopsE1, -vops, e1, hl, hlz])))
        refine AW.cond rfl (fun h => ?_) (fun h => ?_)
        · simp [hlz] at h
        repeat (first | refine AW.seq ?_ | refine AW.block ?_ | (refine AW.reg mix ?_; (simp (implicitDefEqProofs := false) [↓callI, vopsN, vopsG, ↓step_slice, ↓Am.A.step, ↓binInt, ↓binStr, vopsE0, vopsE1, -vops, e1, hl]; try simp (disch := omega) only [w64, wu64])) | (refine need.of (by first | omega | kernel_rfl) ?_) | (refine AW.skip ?_; (try simp (implicitDefEqProofs := false) [↓callI, vopsN, vopsG, ↓step_slice, ↓Am.A.step, ↓binInt, ↓binStr, vopsE0, vopsE1, -vops, e1, hl])) | (refine AW.ret ?_; (try simp (implicitDefEqProofs := false) [↓callI, vopsN, vopsG, ↓step_slice, ↓Am.A.step, ↓binInt, ↓binStr, vopsE0, vopsE1, -vops, e1, hl])) | (refine AW.exit ?_; (try simp (implicitDefEqProofs := false) [↓callI, vopsN, vopsG, ↓step_slice, ↓Am.A.step, ↓binInt, ↓binStr, vopsE0, vopsE1, -vops, e1, hl])))
        refine AW.cond rfl (fun h => ?_) (fun h => ?_)
        · have hb : cs[Q] = false := by simpa using h
          rw [hb, if_neg (by simp)] at hR
          repeat (first | refine AW.seq ?_ | refine AW.block ?_ | (refine AW.reg mix ?_; (simp (implicitDefEqProofs := false) [↓callI, vopsN, vopsG, ↓step_slice, ↓Am.A.step, ↓binInt, ↓binStr, vopsE0, vopsE1, -vops, e2]; try simp (disch := omega) only [w64, wu64])) | (refine need.of (by first | omega | kernel_rfl) ?_) | (refine AW.skip ?_; (try simp (implicitDefEqProofs := false) [↓callI, vopsN, vopsG, ↓step_slice, ↓Am.A.step, ↓binInt, ↓binStr, vopsE0, vopsE1, -vops, e2])) | (refine AW.ret ?_; (try simp (implicitDefEqProofs := false) [↓callI, vopsN, vopsG, ↓step_slice, ↓Am.A.step, ↓binInt, ↓binStr, vopsE0, vopsE1, -vops, e2])) | (refine AW.exit ?_; (try simp (implicitDefEqProofs := false) [↓callI, vopsN, vopsG, ↓step_slice, ↓Am.A.step, ↓binInt, ↓binStr, vopsE0, vopsE1, -vops, e2])))
          refine Sub1.of ?_
          simp [outD, hR]; omega
        · have hb : cs[Q] = true := by simpa using h
          rw [hb, if_pos rfl] at hR
          repeat (first | refine AW.seq ?_ | refine AW.block ?_ | (refine AW.reg mix ?_; (simp (implicitDefEqProofs := false) [↓callI, vopsN, vopsG, ↓step_slice, ↓Am.A.step, ↓binInt, ↓binStr, vopsE0, vopsE1, -vops, e2]; try simp (disch := omega) only [w64, wu64])) | (refine need.of (by first | omega | kernel_rfl) ?_) | (refine AW.skip ?_; (try simp (implicitDefEqProofs := false) [↓callI, vopsN, vopsG, ↓step_slice, ↓Am.A.step, ↓binInt, ↓binStr, vopsE0, vopsE1, -vops, e2])) | (refine AW.ret ?_; (try simp (implicitDefEqProofs := false) [↓callI, vopsN, vopsG, ↓step_slice, ↓Am.A.step, ↓binInt, ↓binStr, vopsE0, vopsE1, -vops, e2])) | (refine AW.exit ?_; (try simp (implicitDefEqProofs := false) [↓callI, vopsN, vopsG, ↓step_slice, ↓Am.A.step, ↓binInt, ↓binStr, vopsE0, vopsE1, -vops, e2])))
          exact ⟨i + 1, ⟨by omega, by omega, by rw [hR]; congr 1 <;> omega⟩, by omega, by simp⟩
      · have hlq : Q = cs.length := by omega
        have hlz : (cs.length : Int) ≤ Q := by omega
        simp only [flipB, flipE, flipP, flipD, hlq, or_true, if_true, Bool.false_eq_true, if_false] at hR
        repeat (first | refine AW.seq ?_ | refine AW.block ?_ | (refine AW.reg mix ?_; (simp (implicitDefEqProofs := false) [↓callI, vopsN, vopsG, ↓step_slice, ↓Am.A.step, ↓binInt, ↓binStr, vopsE0, vopsE1, -vops, e1, hlz]; try simp (disch := omega) only [w64, wu64])) | (refine need.of (by first | omega | kernel_rfl) ?_) | (refine AW.skip ?_; (try simp (implicitDefEqProofs := false) [↓callI, vopsN, vopsG, ↓step_slice, ↓Am.A.step, ↓binInt, ↓binStr, vopsE0, vopsE1, -vops, e1, hlz])) | (refine AW.ret ?_; (try simp (implicitDefEqProofs := false) [↓callI, vopsN, vopsG, ↓step_slice, ↓Am.A.step, ↓binInt, ↓binStr, vopsE0, vopsE1, -vops, e1, hlz])) | (refine AW.exit ?_; (try simp (implicitDefEqProofs := false) [↓callI, vopsN, vopsG, ↓step_slice, ↓Am.A.step, ↓binInt, ↓binStr, vopsE0, vopsE1, -vops, e1, hlz])))
        refine AW.cond rfl (fun h => ?_) (fun h => ?_)
        · repeat (first | refine AW.seq ?_ | refine AW.block ?_ | (refine AW.reg mix ?_; (simp (implicitDefEqProofs := false) [↓callI, vopsN, vopsG, ↓step_slice, ↓Am.A.step, ↓binInt, ↓binStr, vopsE0, vopsE1, -vops]; try simp (disch := omega) only [w64, wu64])) | (refine need.of (by first | omega | kernel_rfl) ?_) | (refine AW.skip ?_; (try simp (implicitDefEqProofs := false) [↓callI, vopsN, vopsG, ↓step_slice, ↓Am.A.step, ↓binInt, ↓binStr, vopsE0, vopsE1, -vops])) | (refine AW.ret ?_; (try simp (implicitDefEqProofs := false) [↓callI, vopsN, vopsG, ↓step_slice, ↓Am.A.step, ↓binInt, ↓binStr, vopsE0, vopsE1, -vops])) | (refine AW.exit ?_; (try simp (implicitDefEqProofs := false) [↓callI, vopsN, vopsG, ↓step_slice, ↓Am.A.step, ↓binInt, ↓binStr, vopsE0, vopsE1, -vops])))
          refine Sub1.of ?_
          simp [outD, hR]; omega
        · simp [hlz] at h
    · simp [h1] at h
end
end Go.Proofs.YtakjegcjeffmgaaGreat.Am
namespace Go.Proofs.YtakjegcjeffmgaaGreat.Am
section
open Go.RowKit
set_option maxRecDepth 100000
set_option linter.unusedSimpArgs false
set_option linter.unusedVariables false

theorem dRatio_ok (cs : List Bool) (a q p : Nat) (ha : a ≤ q) (h0 : 0 < q) (hq : q < 4611686018427387904) (hp : p ≤ cs.length) (hn : cs.length ≤ 4000000) :
    Eqn Tryz.prog n_Tref10_Ratio [.d (BL cs), .d (.int .i64 p), .d (.int .i64 a), .d (.int .i64 q)] [] (.d (outD p (ratioA cs a q p false))) [] := by
  refine Eqn.pure r_Tref10_Ratio (plain_d _) ?_
  simp only [c_Tref10_Ratio, BL]
  have g1 : ¬ (q : Int) ≤ 0 := by omega
  have g2 : ¬ (a : Int) < 0 := by omega
  have g3 : ¬ (q : Int) < a := by omega
  have g1' : ¬ q = 0 := by omega
  have g3' : ¬ q < a := by omega
  obtain ⟨R, hR⟩ : ∃ R, R = ratioA cs a q p false := ⟨_, rfl⟩
  rw [← hR]
  repeat (first | refine AW.seq ?_ | refine AW.block ?_ | (refine AW.reg mix ?_; (simp (implicitDefEqProofs := false) [↓callI, vopsN, vopsG, ↓step_slice, ↓Am.A.step, ↓binInt, ↓binStr, vopsE0, vopsE1, -vops, g1, g2, g3, g1', g3']; try simp (disch := omega) only [w64, wu64])) | (refine need.of (by first | omega | kernel_rfl) ?_) | (refine AW.skip ?_; (try simp (implicitDefEqProofs := false) [↓callI, vopsN, vopsG, ↓step_slice, ↓Am.A.step, ↓binInt, ↓binStr, vopsE0, vopsE1, -vops, g1, g2, g3, g1', g3'])) | (refine AW.ret ?_; (try simp (implicitDefEqProofs := false) [↓callI, vopsN, vopsG, ↓step_slice, ↓Am.A.step, ↓binInt, ↓binStr, vopsE0, vopsE1, -vops, g1, g2, g3, g1', g3'])) | (refine AW.exit ?_; (try simp (implicitDefEqProofs := false) [↓callI, vopsN, vopsG, ↓step_slice, ↓Am.A.step, ↓binInt, ↓binStr, vopsE0, vopsE1, -vops, g1, g2, g3, g1', g3'])))
  refine AW.cond rfl (fun h => ?_) (fun h => ?_)
  · simp at h
  clear h
  by_cases hz : a = 0
  · subst hz
    rw [ratioA, if_pos rfl] at hR
    repeat (first | refine AW.seq ?_ | refine AW.block ?_ | (refine AW.reg mix ?_; (simp (implicitDefEqProofs := false) [↓callI, vopsN, vopsG, ↓step_slice, ↓Am.A.step, ↓binInt, ↓binStr, vopsE0, vopsE1, -vops]; try simp (disch := omega) only [w64, wu64])) | (refine need.of (by first | omega | kernel_rfl) ?_) | (refine AW.skip ?_; (try simp (implicitDefEqProofs := false) [↓callI, vopsN, vopsG, ↓step_slice, ↓Am.A.step, ↓binInt, ↓binStr, vopsE0, vopsE1, -vops])) | (refine AW.ret ?_; (try simp (implicitDefEqProofs := false) [↓callI, vopsN, vopsG, ↓step_slice, ↓Am.A.step, ↓binInt, ↓binStr, vopsE0, vopsE1, -vops])) | (refine AW.exit ?_; (try simp (implicitDefEqProofs := false) [↓callI, vopsN, vopsG, ↓step_slice, ↓Am.A.step, ↓binInt, ↓binStr, vopsE0, vopsE1, -vops])))
    refine AW.cond rfl (fun h => ?_) (fun h => ?_)
    · repeat (first | refine AW.seq ?_ | refine AW.block ?_ | (refine AW.reg mix ?_; (simp (implicitDefEqProofs := false) [↓callI, vopsN, vopsG, ↓step_slice, ↓Am.A.step, ↓binInt, ↓binStr, vopsE0, vopsE1, -vops]; try simp (disch := omega) only [w64, wu64])) | (refine need.of (by first | omega | kernel_rfl) ?_) | (refine AW.skip ?_; (try simp (implicitDefEqProofs := false) [↓callI, vopsN, vopsG, ↓step_slice, ↓Am.A.step, ↓binInt, ↓binStr, vopsE0, vopsE1, -vops])) | (refine AW.ret ?_; (try simp (implicitDefEqProofs := false) [↓callI, vopsN, vopsG, ↓step_slice, ↓Am.A.step, ↓binInt, ↓binStr, vopsE0, vopsE1, -vops])) | (refine AW.exit ?_; (try simp (implicitDefEqProofs := false) [↓callI, vopsN, vopsG, ↓step_slice, ↓Am.A.step, ↓binInt, ↓binStr, vopsE0, vopsE1, -vops])))
      refine Sub1.of ?_
      simp [outD, hR]; omega
    · simp at h
  have hz' : ¬ (a : Int) = 0 := by omega
  by_cases hz2 : a = q
  · subst hz2
    rw [ratioA, if_neg hz, show cs.length + 1 - p = (cs.length - p) + 1 by omega, ratioR, if_neg (by omega)] at hR
    repeat (first | refine AW.seq ?_ | refine AW.block ?_ | (refine AW.reg mix ?_; (simp (implicitDefEqProofs := false) [↓callI, vopsN, vopsG, ↓step_slice, ↓Am.A.step, ↓binInt, ↓binStr, vopsE0, vopsE1, -vops, hz, hz']; try simp (disch := omega) only [w64, wu64])) | (refine need.of (by first | omega | kernel_rfl) ?_) | (refine AW.skip ?_; (try simp (implicitDefEqProofs := false) [↓callI, vopsN, vopsG, ↓step_slice, ↓Am.A.step, ↓binInt, ↓binStr, vopsE0, vopsE1, -vops, hz, hz'])) | (refine AW.ret ?_; (try simp (implicitDefEqProofs := false) [↓callI, vopsN, vopsG, ↓step_slice, ↓Am.A.step, ↓binInt, ↓binStr, vopsE0, vopsE1, -vops, hz, hz'])) | (refine AW.exit ?_; (try simp (implicitDefEqProofs := false) [↓callI, vopsN, vopsG, ↓step_slice, ↓Am.A.step, ↓binInt, ↓binStr, vopsE0, vopsE1, -vops, hz, hz'])))
    refine AW.cond rfl (fun h => ?_) (fun h => ?_)
    · repeat (first | refine AW.seq ?_ | refine AW.block ?_ | (refine AW.reg mix ?_; (simp (implicitDefEqProofs := false) [↓callI, vopsN, vopsG, ↓step_slice, ↓Am.A.step, ↓binInt, ↓binStr, vopsE0, vopsE1, -vops]; try simp (disch := omega) only [w64, wu64])) | (refine need.of (by first | omega | kernel_rfl) ?_) | (refine AW.skip ?_; (try simp (implicitDefEqProofs := false) [↓callI, vopsN, vopsG, ↓step_slice, ↓Am.A.step, ↓binInt, ↓binStr, vopsE0, vopsE1, -vops])) | (refine AW.ret ?_; (try simp (implicitDefEqProofs := false) [↓callI, vopsN, vopsG, ↓step_slice, ↓Am.A.step, ↓binInt, ↓binStr, vopsE0, vopsE1, -vops])) | (refine AW.exit ?_; (try simp (implicitDefEqProofs := false) [↓callI, vopsN, vopsG, ↓step_slice, ↓Am.A.step, ↓binInt, ↓binStr, vopsE0, vopsE1, -vops])))
      refine Sub1.of ?_
      simp [outD, hR]
    · simp at h
  rw [ratioA, if_neg hz] at hR
  repeat (first | refine AW.seq ?_ | refine AW.block ?_ | (refine AW.reg mix ?_; (simp (implicitDefEqProofs := false) [↓callI, vopsN, vopsG, ↓step_slice, ↓Am.A.step, ↓binInt, ↓binStr, vopsE0, vopsE1, -vops, hz, hz', hz2]; try simp (disch := omega) only [w64, wu64])) | (refine need.of (by first | omega | kernel_rfl) ?_) | (refine AW.skip ?_; (try simp (implicitDefEqProofs := false) [↓callI, vopsN, vopsG, ↓step_slice, ↓Am.A.step, ↓binInt, ↓binStr, vopsE0, vopsE1, -vops, hz, hz', hz2])) | (refine AW.ret ?_; (try simp (implicitDefEqProofs := false) [↓callI, vopsN, vopsG, ↓step_slice, ↓Am.A.step, ↓binInt, ↓binStr, vopsE0, vopsE1, -vops, hz, hz', hz2])) | (refine AW.exit ?_; (try simp (implicitDefEqProofs := false) [↓callI, vopsN, vopsG, ↓step_slice, ↓Am.A.step, ↓binInt, ↓binStr, vopsE0, vopsE1, -vops, hz, hz', hz2])))
  refine AW.cond rfl (fun h => ?_) (fun h => ?_)
  · simp at h; omega
  clear h
  repeat (first | refine AW.seq ?_ | refine AW.block ?_ | (refine AW.reg mix ?_; (simp (implicitDefEqProofs := false) [↓callI, vopsN, vopsG, ↓step_slice, ↓Am.A.step, ↓binInt, ↓binStr, vopsE0, vopsE1, -vops]; try simp (disch := omega) only [w64, wu64])) | (refine need.of (by first | omega | kernel_rfl) ?_) | (refine AW.skip ?_; (try simp (implicitDefEqProofs := false) [↓callI, vopsN, vopsG, ↓step_slice, ↓Am.A.step, ↓binInt, ↓binStr, vopsE0, vopsE1, -vops])) | (refine AW.ret ?_; (try simp (implicitDefEqProofs := false) [↓callI, vopsN, vopsG, ↓step_slice, ↓Am.A.step, ↓binInt, ↓binStr, vopsE0, vopsE1, -vops])) | (refine AW.exit ?_; (try simp (implicitDefEqProofs := false) [↓callI, vopsN, vopsG, ↓step_slice, ↓Am.A.step, ↓binInt, ↓binStr, vopsE0, vopsE1, -vops])))
  refine AW.loopT (α := Nat × Nat) 1 (fun s => [(2, .d (.int .i64 (s.1 : Nat))), (9, .d (.int .i64 (s.2 : Nat)))]) (fun i => []) (fun s => 0 < s.1 ∧ s.1 < q ∧ p + s.2 ≤ cs.length ∧ R = ratioR cs q (cs.length + 1 - (p + s.2)) s.1 (p + s.2) false) (fun s => cs.length - s.2) (a, 0) ?_ ?_ ⟨by omega, by omega, hp, hR⟩ ?_ ?_ ?_
  · simp
  · simp
  · simp
  · simp
  clear hR
  rintro ⟨r, i⟩ ⟨hr0, hrq, hp2, hR⟩
  simp only at hr0 hrq hp2 hR
  simp
  obtain ⟨Q, hQ⟩ : ∃ Q, Q = p + i := ⟨_, rfl⟩
  rw [← hQ] at hR hp2
  have e1 : IntKind.i64.wrap ((p : Int) + (i : Int)) = (Q : Int) := by rw [w64 (by omega) (by omega)]; omega
  have e2 : IntKind.i64.wrap ((i : Int) + 1) = ((i + 1 : Nat) : Int) := by rw [w64 (by omega) (by omega)]; omega
  have e3 : IntKind.i64.wrap (2 * (r : Int)) = ((r + r : Nat) : Int) := by rw [w64 (by omega) (by omega)]; omega
  rw [show cs.length + 1 - Q = (cs.length - Q) + 1 by omega, ratioR, if_pos hrq] at hR
  obtain ⟨D, hD⟩ : ∃ D : Nat, D = (r + r) / q := ⟨_, rfl⟩
  obtain ⟨M, hM⟩ : ∃ M : Nat, M = if q ≤ r + r then r + r - q else r + r := ⟨_, rfl⟩
  have hDd : decide (q ≤ r + r) = decide (D = 1) := by
    rw [hD]; congr 1; rw [eq_iff_iff]
    constructor
    · intro h; rw [Nat.div_eq_iff h0]; omega
    · intro h; rw [Nat.div_eq_iff h0] at h; omega
  have hMm : (r + r) % q = M := by
    rw [hM]; split
    · rename_i h; rw [Nat.mod_eq_sub_mod h, Nat.mod_eq_of_lt (by omega)]
    · exact Nat.mod_eq_of_lt (by omega)
  have hMq : M < q := by rw [← hMm]; exact Nat.mod_lt _ h0
  have hDq : D ≤ 2 := by rw [hD]; exact Nat.div_le_of_le_mul (by omega)
  have e4 : IntKind.i64.wrap (((r + r : Nat) : Int) / (q : Int)) = (D : Int) := by
    rw [← Int.natCast_ediv, ← hD]; exact w64 (by omega) (by omega)
  have e5 : ((r + r : Nat) : Int).tmod (q : Int) = (M : Int) := by
    rw [Int.tmod_eq_emod_of_nonneg (by omega), ← Int.natCast_emod, hMm]
  rw [hDd, ← hM] at hR
  clear hDd hM hMm hD
  generalize r + r = r2 at *
  have g4 : ¬ (q : Int) = 0 := by omega
  by_cases hl : Q < cs.length
  · have hg : cs.getD Q false = cs[Q] := by simp [List.getD, hl]
    have hlq : ¬ Q = cs.length := by omega
    have hlz : ¬ (cs.length : Int) ≤ Q := by omega
    simp only [flipB, flipE, flipP, flipD, hg, hlq, or_false, Bool.false_eq_true, if_false, if_true] at hR
    generalize hb : cs[Q] = b at *
    repeat (first | refine AW.seq ?_ | refine AW.block ?_ | (refine AW.reg mix ?_; (simp (implicitDefEqProofs := false) [↓callI, vopsN, vopsG, ↓step_slice, ↓Am.A.step, ↓binInt, ↓binStr, vopsE0, vopsE1, -vops, e1, hl, hlz]; try simp (disch := omega) only [w64, wu64])) | (refine need.of (by first | omega | kernel_rfl) ?_) | (refine AW.skip ?_; (try simp (implicitDefEqProofs := false) [↓callI, vopsN, vopsG, ↓step_slice, ↓Am.A.step, ↓binInt, ↓binStr, vopsE0, vopsE1, -vops, e1, hl, hlz])) | (refine AW.ret ?_; (try simp (implicitDefEqProofs := false) [↓callI, vopsN, vopsG, ↓step_slice, ↓Am.A.step, ↓binInt, ↓binStr, vopsE0, vopsE1, -vops, e1, hl, hlz])) | (refine AW.exit ?_; (try simp (implicitDefEqProofs := false) [↓callI, vopsN, vopsG, ↓step_slice, ↓Am.A.step, ↓binInt, ↓binStr, vopsE0, vopsE1, -vops, e1, hl, hlz])))
    refine AW.cond rfl (fun h => ?_) (fun h => ?_)
    · simp [hlz] at h
    repeat (first | refine AW.seq ?_ | refine AW.block ?_ | (refine AW.reg mix ?_; (simp (implicitDefEqProofs := false) [↓callI, vopsN, vopsG, ↓step_slice, ↓Am.A.step, ↓binInt, ↓binStr, vopsE0, vopsE1, -vops, e1, hl, e3, e4, e5, g1', hb]; try simp (disch := omega) only [w64, wu64])) | (refine need.of (by first | omega | kernel_rfl) ?_) | (refine AW.skip ?_; (try simp (implicitDefEqProofs := false) [↓callI, vopsN, vopsG, ↓step_slice, ↓Am.A.step, ↓binInt, ↓binStr, vopsE0, vopsE1, -vops, e1, hl, e3, e4, e5, g1', hb])) | (refine AW.ret ?_; (try simp (implicitDefEqProofs := false) [↓callI, vopsN, vopsG, ↓step_slice, ↓Am.A.step, ↓binInt, ↓binStr, vopsE0, vopsE1, -vops, e1, hl, e3, e4, e5, g1', hb])) | (refine AW.exit ?_; (try simp (implicitDefEqProofs := false) [↓callI, vopsN, vopsG, ↓step_slice, ↓Am.A.step, ↓binInt, ↓binStr, vopsE0, vopsE1, -vops, e1, hl, e3, e4, e5, g1', hb])))
    by_cases hbd : b = decide (D = 1)
    · have hne : ¬ (b ≠ decide (D = 1)) := by simp [hbd]
      refine AW.cond rfl (fun h => ?_) (fun h => ?_)
      · simp [hbd] at h
        revert h; by_cases hD1 : D = 1
        · simp [hD1]
        · simp [hD1]; omega
      clear h
      repeat (first | refine AW.seq ?_ | refine AW.block ?_ | (refine AW.reg mix ?_; (simp (implicitDefEqProofs := false) [↓callI, vopsN, vopsG, ↓step_slice, ↓Am.A.step, ↓binInt, ↓binStr, vopsE0, vopsE1, -vops, e2]; try simp (disch := omega) only [w64, wu64])) | (refine need.of (by first | omega | kernel_rfl) ?_) | (refine AW.skip ?_; (try simp (implicitDefEqProofs := false) [↓callI, vopsN, vopsG, ↓step_slice, ↓Am.A.step, ↓binInt, ↓binStr, vopsE0, vopsE1, -vops, e2])) | (refine AW.ret ?_; (try simp (implicitDefEqProofs := false) [↓callI, vopsN, vopsG, ↓step_slice, ↓Am.A.step, ↓binInt, ↓binStr, vopsE0, vopsE1, -vops, e2])) | (refine AW.exit ?_; (try simp (implicitDefEqProofs := false) [↓callI, vopsN, vopsG, ↓step_slice, ↓Am.A.step, ↓binInt, ↓binStr, vopsE0, vopsE1, -vops, e2])))
      by_cases hM0 : M = 0
      · rw [if_pos (.inr hM0)] at hR
        refine AW.cond rfl (fun h => ?_) (fun h => ?_)
        · repeat (first | refine AW.seq ?_ | refine AW.block ?_ | (refine AW.reg mix ?_; (simp (implicitDefEqProofs := false) [↓callI, vopsN, vopsG, ↓step_slice, ↓Am.A.step, ↓binInt, ↓binStr, vopsE0, vopsE1, -vops]; try simp (disch := omega) only [w64, wu64])) | (refine need.of (by first | omega | kernel_rfl) ?_) | (refine AW.skip ?_; (try simp (implicitDefEqProofs := false) [↓callI, vopsN, vopsG, ↓step_slice, ↓Am.A.step, ↓binInt, ↓binStr, vopsE0, vopsE1, -vops])) | (refine AW.ret ?_; (try simp (implicitDefEqProofs := false) [↓callI, vopsN, vopsG, ↓step_slice, ↓Am.A.step, ↓binInt, ↓binStr, vopsE0, vopsE1, -vops])) | (refine AW.exit ?_; (try simp (implicitDefEqProofs := false) [↓callI, vopsN, vopsG, ↓step_slice, ↓Am.A.step, ↓binInt, ↓binStr, vopsE0, vopsE1, -vops])))
          refine Sub1.of ?_
          simp [outD, hR, hbd]; omega
        · simp [hM0] at h
      · rw [if_neg (by rintro (h | h); exact hne h; exact hM0 h)] at hR
        refine AW.cond rfl (fun h => ?_) (fun h => ?_)
        · simp [hM0] at h
        repeat (first | refine AW.seq ?_ | refine AW.block ?_ | (refine AW.reg mix ?_; (simp (implicitDefEqProofs := false) [↓callI, vopsN, vopsG, ↓step_slice, ↓Am.A.step, ↓binInt, ↓binStr, vopsE0, vopsE1, -vops]; try simp (disch := omega) only [w64, wu64])) | (refine need.of (by first | omega | kernel_rfl) ?_) | (refine AW.skip ?_; (try simp (implicitDefEqProofs := false) [↓callI, vopsN, vopsG, ↓step_slice, ↓Am.A.step, ↓binInt, ↓binStr, vopsE0, vopsE1, -vops])) | (refine AW.ret ?_; (try simp (implicitDefEqProofs := false) [↓callI, vopsN, vopsG, ↓step_slice, ↓Am.A.step, ↓binInt, ↓binStr, vopsE0, vopsE1, -vops])) | (refine AW.exit ?_; (try simp (implicitDefEqProofs := false) [↓callI, vopsN, vopsG, ↓step_slice, ↓Am.A.step, ↓binInt, ↓binStr, vopsE0, vopsE1, -vops])))
        exact ⟨M, i + 1, ⟨by omega, hMq, by omega, by rw [hR]; congr 1 <;> omega⟩, by omega, by simp⟩
    · have hne : (b ≠ decide (D = 1)) := hbd
      rw [if_pos (.inl hne)] at hR
      refine AW.cond rfl (fun h => ?_) (fun h => ?_)
      · repeat (first | refine AW.seq ?_ | refine AW.block ?_ | (refine AW.reg mix ?_; (simp (implicitDefEqProofs := false) [↓callI, vopsN, vopsG, ↓step_slice, ↓Am.A.step, ↓binInt, ↓binStr, vopsE0, vopsE1, -vops, e2]; try simp (disch := omega) only [w64, wu64])) | (refine need.of (by first | omega | kernel_rfl) ?_) | (refine AW.skip ?_; (try simp (implicitDefEqProofs := false) [↓callI, vopsN, vopsG, ↓step_slice, ↓Am.A.step, ↓binInt, ↓binStr, vopsE0, vopsE1, -vops, e2])) | (refine AW.ret ?_; (try simp (implicitDefEqProofs := false) [↓callI, vopsN, vopsG, ↓step_slice, ↓Am.A.step, ↓binInt, ↓binStr, vopsE0, vopsE1, -vops, e2])) | (refine AW.exit ?_; (try simp (implicitDefEqProofs := false) [↓callI, vopsN, vopsG, ↓step_slice, ↓Am.A.step, ↓binInt, ↓binStr, vopsE0, vopsE1, -vops, e2])))
        refine Sub1.of ?_
        revert hbd hR
        by_cases hD1 : D = 1
        · subst hD1
          cases b <;> simp [outD]
          rintro rfl; simp; omega
        · have : ¬ (D : Int) = 1 := by omega
          cases b <;> simp [outD, hD1, this]
          rintro rfl; simp; omega
      · exfalso
        revert h hbd
        by_cases hD1 : D = 1
        · subst hD1; cases b <;> simp
        · have : ¬ (D : Int) = 1 := by omega
          cases b <;> simp [hD1, this]
  · have hlq : Q = cs.length := by omega
    have hlz : (cs.length : Int) ≤ Q := by omega
    simp only [flipB, flipE, flipP, flipD, hlq, or_true, if_true, Bool.false_eq_true, if_false] at hR
    repeat (first | refine AW.seq ?_ | refine AW.block ?_ | (refine AW.reg mix ?_; (simp (implicitDefEqProofs := false) [↓callI, vopsN, vopsG, ↓step_slice, ↓Am.A.step, ↓binInt, ↓binStr, vopsE0, vopsE1, -vops, e1, hlz]; try simp (disch := omega) only [w64, wu64])) | (refine need.of (by first | omega | kernel_rfl) ?_) | (refine AW.skip ?_; (try simp (implicitDefEqProofs := false) [↓callI, vopsN, vopsG, ↓step_slice, ↓Am.A.step, ↓binInt, ↓binStr, vopsE0, vopsE1, -vops, e1, hlz])) | (refine AW.ret ?_; (try simp (implicitDefEqProofs := false) [↓callI, vopsN, vopsG, ↓step_slice, ↓Am.A.step, ↓binInt, ↓binStr, vopsE0, vopsE1, -vops, e1, hlz])) | (refine AW.exit ?_; (try simp (implicitDefEqProofs := false) [↓callI, vopsN, vopsG, ↓step_slice, ↓Am.A.step, ↓binInt, ↓binStr, vopsE0, vopsE1, -vops, e1, hlz])))
    refine AW.cond rfl (fun h => ?_) (fun h => ?_)
    · repeat (first | refine AW.seq ?_ | refine AW.block ?_ | (refine AW.reg mix ?_; (simp (implicitDefEqProofs := false) [↓callI, vopsN, vopsG, ↓step_slice, ↓Am.A.step, ↓binInt, ↓binStr, vopsE0, vopsE1, -vops]; try simp (disch := omega) only [w64, wu64])) | (refine need.of (by first | omega | kernel_rfl) ?_) | (refine AW.skip ?_; (try simp (implicitDefEqProofs := false) [↓callI, vopsN, vopsG, ↓step_slice, ↓Am.A.step, ↓binInt, ↓binStr, vopsE0, vopsE1, -vops])) | (refine AW.ret ?_; (try simp (implicitDefEqProofs := false) [↓callI, vopsN, vopsG, ↓step_slice, ↓Am.A.step, ↓binInt, ↓binStr, vopsE0, vopsE1, -vops])) | (refine AW.exit ?_; (try simp (implicitDefEqProofs := false) [↓callI, vopsN, vopsG, ↓step_slice, ↓Am.A.step, ↓binInt, ↓binStr, vopsE0, vopsE1, -vops])))
      refine Sub1.of ?_
      simp [outD, hR]; omega
    · simp [hlz] at h
end
end Go.Proofs.YtakjegcjeffmgaaGreat.Am
namespace Go.Proofs.YtakjegcjeffmgaaGreat.Am
section
open Go.RowKit
set_option maxRecDepth 100000
set_option linter.unusedSimpArgs false
set_option linter.unusedVariables false

/-- with an error the tape is dead, and the answer no; else it isn't -/
structure Live (p : Nat) (R : Bool × Int × Nat × Bool) : Prop where
  err : R.2.1 = 0 ∨ R.2.1 = 8
  dead : R.2.2.2 = true ↔ R.2.1 ≠ 0
  no : R.2.1 ≠ 0 → R.1 = false
  le : p ≤ R.2.2.1

theorem Live.mono {p q : Nat} {R : Bool × Int × Nat × Bool} (h : Live q R) (hq : p ≤ q) : Live p R := ⟨h.err, h.dead, h.no, Nat.le_trans hq h.le⟩
theorem flip_live (cs : List Bool) (p : Nat) : Live p (flipB cs p false, flipE cs p false, flipP cs p false, flipD cs p false) := by
  by_cases h : p = cs.length
  · constructor <;> simp [flipB, flipE, flipP, flipD, h]
  · constructor <;> simp [flipB, flipE, flipP, flipD, h]
theorem halfR_live (cs : List Bool) : ∀ (k p : Nat), Live p (halfR cs k p false)
  | 0, p => by constructor <;> simp [halfR]
  | k + 1, p => by
    have hf := flip_live cs p
    rw [halfR]
    split
    · rename_i hb
      have h0 : flipD cs p false = false := by
        cases hd : flipD cs p false with
        | false => rfl
        | true => have := hf.no (hf.dead.1 hd); simp at this; rw [hb] at this; cases this
      rw [h0]
      exact (halfR_live cs k _).mono hf.le
    · rename_i hb
      exact ⟨hf.err, hf.dead, fun _ => rfl, hf.le⟩
theorem ratioR_live (cs : List Bool) (q : Nat) : ∀ (f r p : Nat), Live p (ratioR cs q f r p false)
  | 0, r, p => by constructor <;> simp [ratioR]
  | f + 1, r, p => by
    have hf := flip_live cs p
    rw [ratioR]
    generalize (if q ≤ r + r then r + r - q else r + r) = m
    by_cases h1 : r < q
    · rw [if_pos h1]
      by_cases h2 : flipE cs p false = 0
      · rw [if_pos h2]
        have h0 : flipD cs p false = false := by
          cases hd : flipD cs p false with
          | false => rfl
          | true => exact absurd h2 (hf.dead.1 hd)
        rw [h0]
        split
        · exact ⟨.inl rfl, by simp, by simp, hf.le⟩
        · exact (ratioR_live cs q f _ _).mono hf.le
      · rw [if_neg h2]
        exact ⟨hf.err, hf.dead, fun _ => rfl, hf.le⟩
    · rw [if_neg h1]
      exact ⟨.inl rfl, by simp, by simp, Nat.le_refl _⟩
theorem ratioA_live (cs : List Bool) (a q p : Nat) : Live p (ratioA cs a q p false) := by
  unfold ratioA; split
  · exact ⟨.inl rfl, by simp, by simp, Nat.le_refl _⟩
  · exact ratioR_live _ _ _ _ _
theorem Live.yes {p : Nat} {R : Bool × Int × Nat × Bool} (h : Live p R) (hy : R.1 = true) : R.2.1 = 0 ∧ R.2.2.2 = false := by
  have h1 : R.2.1 = 0 := by
    rcases h.err with e | e
    · exact e
    · have := h.no (by omega); rw [hy] at this; cases this
  refine ⟨h1, ?_⟩
  cases hd : R.2.2.2 with
  | false => rfl
  | true => exact absurd h1 (h.dead.1 hd)
theorem Live.ok {p : Nat} {R : Bool × Int × Nat × Bool} (h : Live p R) (h1 : R.2.1 = 0) : R.2.2.2 = false := by
  cases hd : R.2.2.2 with
  | false => rfl
  | true => exact absurd h1 (h.dead.1 hd)
theorem powerR_live (cs : List Bool) (a q : Nat) : ∀ (k p : Nat), Live p (powerR cs a q k p false)
  | 0, p => by constructor <;> simp [powerR]
  | k + 1, p => by
    have hf := ratioA_live cs a q p
    rw [powerR]
    split
    · rename_i hb
      rw [(hf.yes hb).2]
      exact (powerR_live cs a q k _).mono hf.le
    · exact hf

theorem dPower_ok (cs : List Bool) (a q p : Nat) (k : Int) (hk : k ≤ 4000000) (ha : a ≤ q) (h0 : 0 < q) (hq : q < 4611686018427387904) (hp : p ≤ cs.length) (hn : cs.length ≤ 4000000) :
    Eqn Tryz.prog n_Tref10_Power [.d (BL cs), .d (.int .i64 p), .d (.int .i64 a), .d (.int .i64 q), .d (.int .i64 k)] [] (.d (outD p (powerR cs a q k.toNat p false))) [] := by
  refine Eqn.pure r_Tref10_Power (plain_d _) ?_
  simp only [c_Tref10_Power, BL]
  have hra := fun (z : Nat) (hz : z ≤ cs.length) => dRatio_ok cs a q z ha h0 hq hz hn
  simp only [BL] at hra
  have g1 : ¬ (q : Int) ≤ 0 := by omega
  have g2 : ¬ (a : Int) < 0 := by omega
  have g3 : ¬ (q : Int) < a := by omega
  have g1' : ¬ q = 0 := by omega
  have g3' : ¬ q < a := by omega
  obtain ⟨K, hK⟩ : ∃ K : Nat, K = k.toNat := ⟨_, rfl⟩
  rw [← hK]
  obtain ⟨R, hR⟩ : ∃ R, R = powerR cs a q K p false := ⟨_, rfl⟩
  rw [← hR]
  repeat (first | refine AW.seq ?_ | refine AW.block ?_ | (refine AW.reg mix ?_; (simp (implicitDefEqProofs := false) [↓callI, vopsN, vopsG, ↓step_slice, ↓Am.A.step, ↓binInt, ↓binStr, vopsE0, vopsE1, -vops, g1, g2, g3, g1', g3']; try simp (disch := omega) only [w64, wu64])) | (refine need.of (by first | omega | kernel_rfl) ?_) | (refine AW.skip ?_; (try simp (implicitDefEqProofs := false) [↓callI, vopsN, vopsG, ↓step_slice, ↓Am.A.step, ↓binInt, ↓binStr, vopsE0, vopsE1, -vops, g1, g2, g3, g1', g3'])) | (refine AW.ret ?_; (try simp (implicitDefEqProofs := false) [↓callI, vopsN, vopsG, ↓step_slice, ↓Am.A.step, ↓binInt, ↓binStr, vopsE0, vopsE1, -vops, g1, g2, g3, g1', g3'])) | (refine AW.exit ?_; (try simp (implicitDefEqProofs := false) [↓callI, vopsN, vopsG, ↓step_slice, ↓Am.A.step, ↓binInt, ↓binStr, vopsE0, vopsE1, -vops, g1, g2, g3, g1', g3'])))
  refine AW.cond rfl (fun h => ?_) (fun h => ?_)
  · simp at h
  clear h
  repeat (first | refine AW.seq ?_ | refine AW.block ?_ | (refine AW.reg mix ?_; (simp (implicitDefEqProofs := false) [↓callI, vopsN, vopsG, ↓step_slice, ↓Am.A.step, ↓binInt, ↓binStr, vopsE0, vopsE1, -vops]; try simp (disch := omega) only [w64, wu64])) | (refine need.of (by first | omega | kernel_rfl) ?_) | (refine AW.skip ?_; (try simp (implicitDefEqProofs := false) [↓callI, vopsN, vopsG, ↓step_slice, ↓Am.A.step, ↓binInt, ↓binStr, vopsE0, vopsE1, -vops])) | (refine AW.ret ?_; (try simp (implicitDefEqProofs := false) [↓callI, vopsN, vopsG, ↓step_slice, ↓Am.A.step, ↓binInt, ↓binStr, vopsE0, vopsE1, -vops])) | (refine AW.exit ?_; (try simp (implicitDefEqProofs := false) [↓callI, vopsN, vopsG, ↓step_slice, ↓Am.A.step, ↓binInt, ↓binStr, vopsE0, vopsE1, -vops])))
  refine AW.loopT (α := Nat × Nat) 1 (fun s => [(12, .d (.int .i64 (s.1 : Nat))), (11, .d (.int .i64 (s.2 : Nat)))]) (fun i => []) (fun s => s.1 ≤ K ∧ p + s.2 ≤ cs.length ∧ R = powerR cs a q (K - s.1) (p + s.2) false) (fun s => K - s.1) (0, 0) ?_ ?_ ⟨by omega, hp, hR⟩ ?_ ?_ ?_
  · simp
  · simp
  · simp
  · simp
  clear hR
  rintro ⟨i, j⟩ ⟨hi, hp2, hR⟩
  simp only at hi hp2 hR
  simp
  obtain ⟨Q, hQ⟩ : ∃ Q, Q = p + j := ⟨_, rfl⟩
  rw [← hQ] at hR hp2
  have e1 : IntKind.i64.wrap ((p : Int) + (j : Int)) = (Q : Int) := by rw [w64 (by omega) (by omega)]; omega
  by_cases h : i = K
  · have h1 : ¬ (i : Int) < k := by omega
    rw [show K - i = 0 by omega, powerR] at hR
    repeat (first | refine AW.seq ?_ | refine AW.block ?_ | (refine AW.reg mix ?_; (simp (implicitDefEqProofs := false) [↓callI, vopsN, vopsG, ↓step_slice, ↓Am.A.step, ↓binInt, ↓binStr, vopsE0, vopsE1, -vops, h1]; try simp (disch := omega) only [w64, wu64])) | (refine need.of (by first | omega | kernel_rfl) ?_) | (refine AW.skip ?_; (try simp (implicitDefEqProofs := false) [↓callI, vopsN, vopsG, ↓step_slice, ↓Am.A.step, ↓binInt, ↓binStr, vopsE0, vopsE1, -vops, h1])) | (refine AW.ret ?_; (try simp (implicitDefEqProofs := false) [↓callI, vopsN, vopsG, ↓step_slice, ↓Am.A.step, ↓binInt, ↓binStr, vopsE0, vopsE1, -vops, h1])) | (refine AW.exit ?_; (try simp (implicitDefEqProofs := false) [↓callI, vopsN, vopsG, ↓step_slice, ↓Am.A.step, ↓binInt, ↓binStr, vopsE0, vopsE1, -vops, h1])))
    refine AW.cond rfl (fun h => ?_) (fun h => ?_)
    · simp [h1] at h
    repeat (first | refine AW.seq ?_ | refine AW.block ?_ | (refine AW.reg mix ?_; (simp (implicitDefEqProofs := false) [↓callI, vopsN, vopsG, ↓step_slice, ↓Am.A.step, ↓binInt, ↓binStr, vopsE0, vopsE1, -vops]; try simp (disch := omega) only [w64, wu64])) | (refine need.of (by first | omega | kernel_rfl) ?_) | (refine AW.skip ?_; (try simp (implicitDefEqProofs := false) [↓callI, vopsN, vopsG, ↓step_slice, ↓Am.A.step, ↓binInt, ↓binStr, vopsE0, vopsE1, -vops])) | (refine AW.ret ?_; (try simp (implicitDefEqProofs := false) [↓callI, vopsN, vopsG, ↓step_slice, ↓Am.A.step, ↓binInt, ↓binStr, vopsE0, vopsE1, -vops])) | (refine AW.exit ?_; (try simp (implicitDefEqProofs := false) [↓callI, vopsN, vopsG, ↓step_slice, ↓Am.A.step, ↓binInt, ↓binStr, vopsE0, vopsE1, -vops])))
    refine Sub1.of ?_
    simp [outD, hR]; omega
  · have h1 : (i : Int) < k := by omega
    have e2 : IntKind.i64.wrap ((i : Int) + 1) = ((i + 1 : Nat) : Int) := by rw [w64 (by omega) (by omega)]; omega
    obtain ⟨r, hr⟩ : ∃ r, K - i = r + 1 := ⟨K - i - 1, by omega⟩
    rw [hr, powerR] at hR
    have hra := hra Q hp2
    have hl := ratioA_live cs a q Q
    have hle := ratioA_le (a := a) (q := q) (dd := false) hp2
    generalize ratioA cs a q Q false = X at *
    obtain ⟨x1, x2, x3, x4⟩ := X
    simp only [outD] at hra hl hle hR
    obtain ⟨Z, hZ⟩ : ∃ Z, Z = x3 - Q := ⟨_, rfl⟩
    rw [← hZ] at hra
    have hl2 := hl.le
    simp only at hl2
    have e3 : IntKind.i64.wrap ((j : Int) + (Z : Int)) = ((j + Z : Nat) : Int) := by rw [w64 (by omega) (by omega)]; omega
    repeat (first | refine AW.seq ?_ | refine AW.block ?_ | (refine AW.reg mix ?_; (simp (implicitDefEqProofs := false) [↓callI, vopsN, vopsG, ↓step_slice, ↓Am.A.step, ↓binInt, ↓binStr, vopsE0, vopsE1, -vops, h1]; try simp (disch := omega) only [w64, wu64])) | (refine need.of (by first | omega | kernel_rfl) ?_) | (refine AW.skip ?_; (try simp (implicitDefEqProofs := false) [↓callI, vopsN, vopsG, ↓step_slice, ↓Am.A.step, ↓binInt, ↓binStr, vopsE0, vopsE1, -vops, h1])) | (refine AW.ret ?_; (try simp (implicitDefEqProofs := false) [↓callI, vopsN, vopsG, ↓step_slice, ↓Am.A.step, ↓binInt, ↓binStr, vopsE0, vopsE1, -vops, h1])) | (refine AW.exit ?_; (try simp (implicitDefEqProofs := false) [↓callI, vopsN, vopsG, ↓step_slice, ↓Am.A.step, ↓binInt, ↓binStr, vopsE0, vopsE1, -vops, h1])))
    refine AW.cond rfl (fun h => ?_) (fun h => ?_)
    · repeat (first | refine AW.seq ?_ | refine AW.block ?_ | (refine AW.reg mix ?_; (simp (implicitDefEqProofs := false) [↓callI, vopsN, vopsG, ↓step_slice, ↓Am.A.step, ↓binInt, ↓binStr, vopsE0, vopsE1, -vops, e1, -Bool.exists_bool]; try simp (disch := omega) only [w64, wu64])) | (refine need.of (by first | omega | kernel_rfl) ?_) | (refine AW.skip ?_; (try simp (implicitDefEqProofs := false) [↓callI, vopsN, vopsG, ↓step_slice, ↓Am.A.step, ↓binInt, ↓binStr, vopsE0, vopsE1, -vops, e1, -Bool.exists_bool])) | (refine AW.ret ?_; (try simp (implicitDefEqProofs := false) [↓callI, vopsN, vopsG, ↓step_slice, ↓Am.A.step, ↓binInt, ↓binStr, vopsE0, vopsE1, -vops, e1, -Bool.exists_bool])) | (refine AW.exit ?_; (try simp (implicitDefEqProofs := false) [↓callI, vopsN, vopsG, ↓step_slice, ↓Am.A.step, ↓binInt, ↓binStr, vopsE0, vopsE1, -vops, e1, -Bool.exists_bool])))
      refine CallS.pure (hra) (by first | exact plain_d _ | exact plain_tup2 _ _ | exact plain_tup3 _ _ _) rfl (fun _ => rfl) (Subs.refl _) ?_
      (try simp (implicitDefEqProofs := false) [↓callI, vopsN, vopsG, ↓step_slice, ↓Am.A.step, ↓binInt, ↓binStr, vopsE0, vopsE1, -vops, e3, -Bool.exists_bool]; try simp (disch := omega) only [w64, wu64])
      repeat (first | refine AW.seq ?_ | refine AW.block ?_ | (refine AW.reg mix ?_; (simp (implicitDefEqProofs := false) [↓callI, vopsN, vopsG, ↓step_slice, ↓Am.A.step, ↓binInt, ↓binStr, vopsE0, vopsE1, -vops, e3, -Bool.exists_bool]; try simp (disch := omega) only [w64, wu64])) | (refine need.of (by first | omega | kernel_rfl) ?_) | (refine AW.skip ?_; (try simp (implicitDefEqProofs := false) [↓callI, vopsN, vopsG, ↓step_slice, ↓Am.A.step, ↓binInt, ↓binStr, vopsE0, vopsE1, -vops, e3, -Bool.exists_bool])) | (refine AW.ret ?_; (try simp (implicitDefEqProofs := false) [↓callI, vopsN, vopsG, ↓step_slice, ↓Am.A.step, ↓binInt, ↓binStr, vopsE0, vopsE1, -vops, e3, -Bool.exists_bool])) | (refine AW.exit ?_; (try simp (implicitDefEqProofs := false) [↓callI, vopsN, vopsG, ↓step_slice, ↓Am.A.step, ↓binInt, ↓binStr, vopsE0, vopsE1, -vops, e3, -Bool.exists_bool])))
      cases x1 with
      | true =>
        have := (hl.yes rfl).2
        simp only at this
        subst this
        rw [if_pos rfl] at hR
        refine AW.cond rfl (fun h => ?_) (fun h => ?_)
        · simp at h
        repeat (first | refine AW.seq ?_ | refine AW.block ?_ | (refine AW.reg mix ?_; (simp (implicitDefEqProofs := false) [↓callI, vopsN, vopsG, ↓step_slice, ↓Am.A.step, ↓binInt, ↓binStr, vopsE0, vopsE1, -vops, e2, e3]; try simp (disch := omega) only [w64, wu64])) | (refine need.of (by first | omega | kernel_rfl) ?_) | (refine AW.skip ?_; (try simp (implicitDefEqProofs := false) [↓callI, vopsN, vopsG, ↓step_slice, ↓Am.A.step, ↓binInt, ↓binStr, vopsE0, vopsE1, -vops, e2, e3])) | (refine AW.ret ?_; (try simp (implicitDefEqProofs := false) [↓callI, vopsN, vopsG, ↓step_slice, ↓Am.A.step, ↓binInt, ↓binStr, vopsE0, vopsE1, -vops, e2, e3])) | (refine AW.exit ?_; (try simp (implicitDefEqProofs := false) [↓callI, vopsN, vopsG, ↓step_slice, ↓Am.A.step, ↓binInt, ↓binStr, vopsE0, vopsE1, -vops, e2, e3])))
        exact ⟨i + 1, j + Z, ⟨by omega, by omega, by rw [hR]; congr 1 <;> omega⟩, by omega, by simp⟩
      | false =>
        rw [if_neg (by simp)] at hR
        refine AW.cond rfl (fun h => ?_) (fun h => ?_)
        · repeat (first | refine AW.seq ?_ | refine AW.block ?_ | (refine AW.reg mix ?_; (simp (implicitDefEqProofs := false) [↓callI, vopsN, vopsG, ↓step_slice, ↓Am.A.step, ↓binInt, ↓binStr, vopsE0, vopsE1, -vops, e3]; try simp (disch := omega) only [w64, wu64])) | (refine need.of (by first | omega | kernel_rfl) ?_) | (refine AW.skip ?_; (try simp (implicitDefEqProofs := false) [↓callI, vopsN, vopsG, ↓step_slice, ↓Am.A.step, ↓binInt, ↓binStr, vopsE0, vopsE1, -vops, e3])) | (refine AW.ret ?_; (try simp (implicitDefEqProofs := false) [↓callI, vopsN, vopsG, ↓step_slice, ↓Am.A.step, ↓binInt, ↓binStr, vopsE0, vopsE1, -vops, e3])) | (refine AW.exit ?_; (try simp (implicitDefEqProofs := false) [↓callI, vopsN, vopsG, ↓step_slice, ↓Am.A.step, ↓binInt, ↓binStr, vopsE0, vopsE1, -vops, e3])))
          refine Sub1.of ?_
          simp [outD, hR]; omega
        · simp at h
    · simp [h1] at h
end
end Go.Proofs.YtakjegcjeffmgaaGreat.Am
namespace Go.Proofs.YtakjegcjeffmgaaGreat.Am
section
open Go.RowKit
set_option maxRecDepth 100000
set_option linter.unusedSimpArgs false
set_option linter.unusedVariables false

theorem meth_fchance : MethOK Tryz.prog 144 "tallymark/chain.chance" n_chain_aFloat_chance := fun v w => by kernel_rfl
theorem meth_ychance : MethOK Tryz.prog 145 "tallymark/chain.chance" n_chain_aYu_chance := fun v w => by kernel_rfl

/-- 1 by 2 to the e -/
def halfD (e : Nat) : D := .agg [natW 1, .bool false, natW (2 ^ e - 1)]
/-- how small a chance is, of halves -/
def expOf (k a x : Nat) : Nat := if k = 2 then x / 2 ^ a else (placeY a x).shift

theorem cfchance_ok (d k : Nat) (hd : d ≤ 8) (hk : k ≤ 1023) (hu : k / 2 ^ d < 64) : Eqn Tryz.prog n_chain_aFloat_chance [.d (.int .i64 d), .d (.int .i64 k)] [] (.tup [.d (halfD (k / 2 ^ d)), .d (.int .i64 0)]) [] := by
  refine Eqn.pure r_chain_aFloat_chance (plain_tup2 _ _) ?_
  have h := chance_small d k hd hk hu
  simp only [c_chain_aFloat_chance, halfD]
  generalize natW (2 ^ (k / 2 ^ d) - 1) = Z at *
  repeat (first | refine AW.seq ?_ | refine AW.block ?_ | (refine AW.reg mix ?_; (simp (implicitDefEqProofs := false) [↓callI, vopsN, vopsG, ↓step_slice, ↓Am.A.step, ↓binInt, ↓binStr, vopsE0, vopsE1, -vops]; try simp (disch := omega) only [w64, wu64])) | (refine need.of (by first | omega | kernel_rfl) ?_) | (refine AW.skip ?_; (try simp (implicitDefEqProofs := false) [↓callI, vopsN, vopsG, ↓step_slice, ↓Am.A.step, ↓binInt, ↓binStr, vopsE0, vopsE1, -vops])) | (refine AW.ret ?_; (try simp (implicitDefEqProofs := false) [↓callI, vopsN, vopsG, ↓step_slice, ↓Am.A.step, ↓binInt, ↓binStr, vopsE0, vopsE1, -vops])) | (refine AW.exit ?_; (try simp (implicitDefEqProofs := false) [↓callI, vopsN, vopsG, ↓step_slice, ↓Am.A.step, ↓binInt, ↓binStr, vopsE0, vopsE1, -vops])))
  refine CallS.pure (h) (by first | exact plain_d _ | exact plain_tup2 _ _ | exact plain_tup3 _ _ _) rfl (fun _ => rfl) (Subs.refl _) ?_
  (try simp (implicitDefEqProofs := false) [↓callI, vopsN, vopsG, ↓step_slice, ↓Am.A.step, ↓binInt, ↓binStr, vopsE0, vopsE1, -vops]; try simp (disch := omega) only [w64, wu64])
  repeat (first | refine AW.seq ?_ | refine AW.block ?_ | (refine AW.reg mix ?_; (simp (implicitDefEqProofs := false) [↓callI, vopsN, vopsG, ↓step_slice, ↓Am.A.step, ↓binInt, ↓binStr, vopsE0, vopsE1, -vops]; try simp (disch := omega) only [w64, wu64])) | (refine need.of (by first | omega | kernel_rfl) ?_) | (refine AW.skip ?_; (try simp (implicitDefEqProofs := false) [↓callI, vopsN, vopsG, ↓step_slice, ↓Am.A.step, ↓binInt, ↓binStr, vopsE0, vopsE1, -vops])) | (refine AW.ret ?_; (try simp (implicitDefEqProofs := false) [↓callI, vopsN, vopsG, ↓step_slice, ↓Am.A.step, ↓binInt, ↓binStr, vopsE0, vopsE1, -vops])) | (refine AW.exit ?_; (try simp (implicitDefEqProofs := false) [↓callI, vopsN, vopsG, ↓step_slice, ↓Am.A.step, ↓binInt, ↓binStr, vopsE0, vopsE1, -vops])))

theorem yshift_small : ∀ a, a < 3 → ∀ x, x < 16 → (placeY a x).shift < 64 := by decide

theorem ychance_ok (s k : Nat) (h1 : 1 ≤ s) (h2 : s ≤ 5) (hk : k ≤ 1023) (hu : (placeY s k).shift < 64) : Eqn Tryz.prog n_yu_Chance [.d (.int .i64 s), .d (.int .i64 k)] [] (.tup [.d (halfD (placeY s k).shift), .d (.int .i64 0)]) [] := by
  refine Eqn.pure r_yu_Chance (plain_tup2 _ _) ?_
  have ha := at_good s k h1 h2 hk
  generalize placeY s k = P at *
  obtain ⟨px, ps, pv, pr⟩ := P
  simp only at hu
  have hh := rhalf_ok ps hu
  simp only [c_yu_Chance, halfD, plD] at ha ⊢
  generalize natW (2 ^ ps - 1) = Z at *
  repeat (first | refine AW.seq ?_ | refine AW.block ?_ | (refine AW.reg mix ?_; (simp (implicitDefEqProofs := false) [↓callI, vopsN, vopsG, ↓step_slice, ↓Am.A.step, ↓binInt, ↓binStr, vopsE0, vopsE1, -vops]; try simp (disch := omega) only [w64, wu64])) | (refine need.of (by first | omega | kernel_rfl) ?_) | (refine AW.skip ?_; (try simp (implicitDefEqProofs := false) [↓callI, vopsN, vopsG, ↓step_slice, ↓Am.A.step, ↓binInt, ↓binStr, vopsE0, vopsE1, -vops])) | (refine AW.ret ?_; (try simp (implicitDefEqProofs := false) [↓callI, vopsN, vopsG, ↓step_slice, ↓Am.A.step, ↓binInt, ↓binStr, vopsE0, vopsE1, -vops])) | (refine AW.exit ?_; (try simp (implicitDefEqProofs := false) [↓callI, vopsN, vopsG, ↓step_slice, ↓Am.A.step, ↓binInt, ↓binStr, vopsE0, vopsE1, -vops])))
  refine CallS.pure (ha) (by first | exact plain_d _ | exact plain_tup2 _ _ | exact plain_tup3 _ _ _) rfl (fun _ => rfl) (Subs.refl _) ?_
  (try simp (implicitDefEqProofs := false) [↓callI, vopsN, vopsG, ↓step_slice, ↓Am.A.step, ↓binInt, ↓binStr, vopsE0, vopsE1, -vops]; try simp (disch := omega) only [w64, wu64])
  repeat (first | refine AW.seq ?_ | refine AW.block ?_ | (refine AW.reg mix ?_; (simp (implicitDefEqProofs := false) [↓callI, vopsN, vopsG, ↓step_slice, ↓Am.A.step, ↓binInt, ↓binStr, vopsE0, vopsE1, -vops]; try simp (disch := omega) only [w64, wu64])) | (refine need.of (by first | omega | kernel_rfl) ?_) | (refine AW.skip ?_; (try simp (implicitDefEqProofs := false) [↓callI, vopsN, vopsG, ↓step_slice, ↓Am.A.step, ↓binInt, ↓binStr, vopsE0, vopsE1, -vops])) | (refine AW.ret ?_; (try simp (implicitDefEqProofs := false) [↓callI, vopsN, vopsG, ↓step_slice, ↓Am.A.step, ↓binInt, ↓binStr, vopsE0, vopsE1, -vops])) | (refine AW.exit ?_; (try simp (implicitDefEqProofs := false) [↓callI, vopsN, vopsG, ↓step_slice, ↓Am.A.step, ↓binInt, ↓binStr, vopsE0, vopsE1, -vops])))
  refine AW.cond rfl (fun h => ?_) (fun h => ?_)
  · simp at h
  repeat (first | refine AW.seq ?_ | refine AW.block ?_ | (refine AW.reg mix ?_; (simp (implicitDefEqProofs := false) [↓callI, vopsN, vopsG, ↓step_slice, ↓Am.A.step, ↓binInt, ↓binStr, vopsE0, vopsE1, -vops]; try simp (disch := omega) only [w64, wu64])) | (refine need.of (by first | omega | kernel_rfl) ?_) | (refine AW.skip ?_; (try simp (implicitDefEqProofs := false) [↓callI, vopsN, vopsG, ↓step_slice, ↓Am.A.step, ↓binInt, ↓binStr, vopsE0, vopsE1, -vops])) | (refine AW.ret ?_; (try simp (implicitDefEqProofs := false) [↓callI, vopsN, vopsG, ↓step_slice, ↓Am.A.step, ↓binInt, ↓binStr, vopsE0, vopsE1, -vops])) | (refine AW.exit ?_; (try simp (implicitDefEqProofs := false) [↓callI, vopsN, vopsG, ↓step_slice, ↓Am.A.step, ↓binInt, ↓binStr, vopsE0, vopsE1, -vops])))
  refine CallS.pure (hh) (by first | exact plain_d _ | exact plain_tup2 _ _ | exact plain_tup3 _ _ _) rfl (fun _ => rfl) (Subs.refl _) ?_
  (try simp (implicitDefEqProofs := false) [↓callI, vopsN, vopsG, ↓step_slice, ↓Am.A.step, ↓binInt, ↓binStr, vopsE0, vopsE1, -vops]; try simp (disch := omega) only [w64, wu64])
  repeat (first | refine AW.seq ?_ | refine AW.block ?_ | (refine AW.reg mix ?_; (simp (implicitDefEqProofs := false) [↓callI, vopsN, vopsG, ↓step_slice, ↓Am.A.step, ↓binInt, ↓binStr, vopsE0, vopsE1, -vops]; try simp (disch := omega) only [w64, wu64])) | (refine need.of (by first | omega | kernel_rfl) ?_) | (refine AW.skip ?_; (try simp (implicitDefEqProofs := false) [↓callI, vopsN, vopsG, ↓step_slice, ↓Am.A.step, ↓binInt, ↓binStr, vopsE0, vopsE1, -vops])) | (refine AW.ret ?_; (try simp (implicitDefEqProofs := false) [↓callI, vopsN, vopsG, ↓step_slice, ↓Am.A.step, ↓binInt, ↓binStr, vopsE0, vopsE1, -vops])) | (refine AW.exit ?_; (try simp (implicitDefEqProofs := false) [↓callI, vopsN, vopsG, ↓step_slice, ↓Am.A.step, ↓binInt, ↓binStr, vopsE0, vopsE1, -vops])))

theorem cychance_ok (s k : Nat) (h1 : 1 ≤ s) (h2 : s ≤ 5) (hk : k ≤ 1023) (hu : (placeY s k).shift < 64) : Eqn Tryz.prog n_chain_aYu_chance [.d (.int .i64 s), .d (.int .i64 k)] [] (.tup [.d (halfD (placeY s k).shift), .d (.int .i64 0)]) [] := by
  refine Eqn.pure r_chain_aYu_chance (plain_tup2 _ _) ?_
  have h := ychance_ok s k h1 h2 hk hu
  simp only [c_chain_aYu_chance, halfD] at h ⊢
  generalize natW (2 ^ (placeY s k).shift - 1) = Z at *
  repeat (first | refine AW.seq ?_ | refine AW.block ?_ | (refine AW.reg mix ?_; (simp (implicitDefEqProofs := false) [↓callI, vopsN, vopsG, ↓step_slice, ↓Am.A.step, ↓binInt, ↓binStr, vopsE0, vopsE1, -vops]; try simp (disch := omega) only [w64, wu64])) | (refine need.of (by first | omega | kernel_rfl) ?_) | (refine AW.skip ?_; (try simp (implicitDefEqProofs := false) [↓callI, vopsN, vopsG, ↓step_slice, ↓Am.A.step, ↓binInt, ↓binStr, vopsE0, vopsE1, -vops])) | (refine AW.ret ?_; (try simp (implicitDefEqProofs := false) [↓callI, vopsN, vopsG, ↓step_slice, ↓Am.A.step, ↓binInt, ↓binStr, vopsE0, vopsE1, -vops])) | (refine AW.exit ?_; (try simp (implicitDefEqProofs := false) [↓callI, vopsN, vopsG, ↓step_slice, ↓Am.A.step, ↓binInt, ↓binStr, vopsE0, vopsE1, -vops])))
  refine CallS.pure (h) (by first | exact plain_d _ | exact plain_tup2 _ _ | exact plain_tup3 _ _ _) rfl (fun _ => rfl) (Subs.refl _) ?_
  (try simp (implicitDefEqProofs := false) [↓callI, vopsN, vopsG, ↓step_slice, ↓Am.A.step, ↓binInt, ↓binStr, vopsE0, vopsE1, -vops]; try simp (disch := omega) only [w64, wu64])
  repeat (first | refine AW.seq ?_ | refine AW.block ?_ | (refine AW.reg mix ?_; (simp (implicitDefEqProofs := false) [↓callI, vopsN, vopsG, ↓step_slice, ↓Am.A.step, ↓binInt, ↓binStr, vopsE0, vopsE1, -vops]; try simp (disch := omega) only [w64, wu64])) | (refine need.of (by first | omega | kernel_rfl) ?_) | (refine AW.skip ?_; (try simp (implicitDefEqProofs := false) [↓callI, vopsN, vopsG, ↓step_slice, ↓Am.A.step, ↓binInt, ↓binStr, vopsE0, vopsE1, -vops])) | (refine AW.ret ?_; (try simp (implicitDefEqProofs := false) [↓callI, vopsN, vopsG, ↓step_slice, ↓Am.A.step, ↓binInt, ↓binStr, vopsE0, vopsE1, -vops])) | (refine AW.exit ?_; (try simp (implicitDefEqProofs := false) [↓callI, vopsN, vopsG, ↓step_slice, ↓Am.A.step, ↓binInt, ↓binStr, vopsE0, vopsE1, -vops])))

theorem expOf_small {k a w x : Nat} (h : GoodS k a w) (hk : k ≠ 1) (hx : x ≤ 15) : expOf k a x < 64 := by
  unfold expOf
  split
  · have : x / 2 ^ a ≤ x := Nat.div_le_self _ _
    omega
  · exact yshift_small a (by have := h.1; omega) x (by omega)

theorem kchance_ok {k a w x : Nat} (h : GoodS k a w) (hk : k ≠ 1) (hx : x ≤ 15) : ∃ ti d g, MethOK Tryz.prog ti "tallymark/chain.chance" g ∧ kindD k a = .ifc ti d ∧ Eqn Tryz.prog g [.d d, .d (.int .i64 x)] [] (.tup [.d (halfD (expOf k a x)), .d (.int .i64 0)]) [] := by
  have hs := expOf_small h hk hx
  obtain ⟨h, -⟩ := h
  rcases h with ⟨rfl, -⟩ | ⟨rfl, h1⟩ | ⟨rfl, h1, h2⟩
  · exact absurd rfl hk
  · exact ⟨_, _, _, meth_fchance, rfl, cfchance_ok a x (by omega) (by omega) hs⟩
  · exact ⟨_, _, _, meth_ychance, rfl, cychance_ok a x h1 (by omega) (by omega) hs⟩

theorem chance_good {k a w x : Nat} (h : GoodS k a w) (hk : k ≠ 1) (hx : x < 2 ^ w - 1) : Eqn Tryz.prog n_chain_Param_Chance [.d (parD k a w), .d (.int .i64 x)] [] (.tup [.d (halfD (expOf k a x)), .d (.int .i64 0)]) [] := by
  refine Eqn.pure r_chain_Param_Chance (plain_tup2 _ _) ?_
  have h2 : 2 ^ w - 1 ≤ 15 := by have := Nat.pow_le_pow_right (n := 2) (by omega) h.2.2; omega
  have w2 : w ≤ 10 := by have := h.2.2; omega
  have hc := good_check h
  have hat := at_ok1 k a w w2 x (by omega) (by omega) hc
  have ht := top_ok k a w w2 hc
  have hkd := kind_ok k a w
  obtain ⟨ti, d, g, hm, hd, hg⟩ := kchance_ok (x := x) h hk (by omega)
  rw [hd] at hkd
  simp only [c_chain_Param_Chance, parD, halfD] at hat ht hg ⊢
  generalize 2 ^ w - 1 = W at *
  generalize natW (2 ^ expOf k a x - 1) = Z at *
  have g1 : ¬ x = W := by omega
  have g2 : ¬ (x : Int) = W := by omega
  repeat (first | refine AW.seq ?_ | refine AW.block ?_ | (refine AW.reg mix ?_; (simp (implicitDefEqProofs := false) [↓callI, vopsN, vopsG, ↓step_slice, ↓Am.A.step, ↓binInt, ↓binStr, vopsE0, vopsE1, -vops, g1, g2]; try simp (disch := omega) only [w64, wu64])) | (refine need.of (by first | omega | kernel_rfl) ?_) | (refine AW.skip ?_; (try simp (implicitDefEqProofs := false) [↓callI, vopsN, vopsG, ↓step_slice, ↓Am.A.step, ↓binInt, ↓binStr, vopsE0, vopsE1, -vops, g1, g2])) | (refine AW.ret ?_; (try simp (implicitDefEqProofs := false) [↓callI, vopsN, vopsG, ↓step_slice, ↓Am.A.step, ↓binInt, ↓binStr, vopsE0, vopsE1, -vops, g1, g2])) | (refine AW.exit ?_; (try simp (implicitDefEqProofs := false) [↓callI, vopsN, vopsG, ↓step_slice, ↓Am.A.step, ↓binInt, ↓binStr, vopsE0, vopsE1, -vops, g1, g2])))
  refine CallS.pureF 2 1 ⟨3, _⟩ [.int .i64 x] (hat) (by first | exact plain_d _ | exact plain_tup2 _ _ | exact plain_tup3 _ _ _) rfl (fun _ => rfl) (by rfl) (by simp) (Subs.of ?_) ?_
  focus first | rfl | (simp [g1, g2]; done) | skip
  rotate_left
  (try simp (implicitDefEqProofs := false) [↓callI, vopsN, vopsG, ↓step_slice, ↓Am.A.step, ↓binInt, ↓binStr, vopsE0, vopsE1, -vops, g1, g2]; try simp (disch := omega) only [w64, wu64])
  repeat (first | refine AW.seq ?_ | refine AW.block ?_ | (refine AW.reg mix ?_; (simp (implicitDefEqProofs := false) [↓callI, vopsN, vopsG, ↓step_slice, ↓Am.A.step, ↓binInt, ↓binStr, vopsE0, vopsE1, -vops, g1, g2]; try simp (disch := omega) only [w64, wu64])) | (refine need.of (by first | omega | kernel_rfl) ?_) | (refine AW.skip ?_; (try simp (implicitDefEqProofs := false) [↓callI, vopsN, vopsG, ↓step_slice, ↓Am.A.step, ↓binInt, ↓binStr, vopsE0, vopsE1, -vops, g1, g2])) | (refine AW.ret ?_; (try simp (implicitDefEqProofs := false) [↓callI, vopsN, vopsG, ↓step_slice, ↓Am.A.step, ↓binInt, ↓binStr, vopsE0, vopsE1, -vops, g1, g2])) | (refine AW.exit ?_; (try simp (implicitDefEqProofs := false) [↓callI, vopsN, vopsG, ↓step_slice, ↓Am.A.step, ↓binInt, ↓binStr, vopsE0, vopsE1, -vops, g1, g2])))
  refine CallS.pure (ht) (by first | exact plain_d _ | exact plain_tup2 _ _ | exact plain_tup3 _ _ _) rfl (fun _ => rfl) (Subs.refl _) ?_
  (try simp (implicitDefEqProofs := false) [↓callI, vopsN, vopsG, ↓step_slice, ↓Am.A.step, ↓binInt, ↓binStr, vopsE0, vopsE1, -vops, g1, g2]; try simp (disch := omega) only [w64, wu64])
  repeat (first | refine AW.seq ?_ | refine AW.block ?_ | (refine AW.reg mix ?_; (simp (implicitDefEqProofs := false) [↓callI, vopsN, vopsG, ↓step_slice, ↓Am.A.step, ↓binInt, ↓binStr, vopsE0, vopsE1, -vops, g1, g2]; try simp (disch := omega) only [w64, wu64])) | (refine need.of (by first | omega | kernel_rfl) ?_) | (refine AW.skip ?_; (try simp (implicitDefEqProofs := false) [↓callI, vopsN, vopsG, ↓step_slice, ↓Am.A.step, ↓binInt, ↓binStr, vopsE0, vopsE1, -vops, g1, g2])) | (refine AW.ret ?_; (try simp (implicitDefEqProofs := false) [↓callI, vopsN, vopsG, ↓step_slice, ↓Am.A.step, ↓binInt, ↓binStr, vopsE0, vopsE1, -vops, g1, g2])) | (refine AW.exit ?_; (try simp (implicitDefEqProofs := false) [↓callI, vopsN, vopsG, ↓step_slice, ↓Am.A.step, ↓binInt, ↓binStr, vopsE0, vopsE1, -vops, g1, g2])))
  refine AW.cond rfl (fun h => ?_) (fun h => ?_)
  · simp [g2] at h
  repeat (first | refine AW.seq ?_ | refine AW.block ?_ | (refine AW.reg mix ?_; (simp (implicitDefEqProofs := false) [↓callI, vopsN, vopsG, ↓step_slice, ↓Am.A.step, ↓binInt, ↓binStr, vopsE0, vopsE1, -vops]; try simp (disch := omega) only [w64, wu64])) | (refine need.of (by first | omega | kernel_rfl) ?_) | (refine AW.skip ?_; (try simp (implicitDefEqProofs := false) [↓callI, vopsN, vopsG, ↓step_slice, ↓Am.A.step, ↓binInt, ↓binStr, vopsE0, vopsE1, -vops])) | (refine AW.ret ?_; (try simp (implicitDefEqProofs := false) [↓callI, vopsN, vopsG, ↓step_slice, ↓Am.A.step, ↓binInt, ↓binStr, vopsE0, vopsE1, -vops])) | (refine AW.exit ?_; (try simp (implicitDefEqProofs := false) [↓callI, vopsN, vopsG, ↓step_slice, ↓Am.A.step, ↓binInt, ↓binStr, vopsE0, vopsE1, -vops])))
  refine CallS.pure (hkd) (by first | exact plain_d _ | exact plain_tup2 _ _ | exact plain_tup3 _ _ _) rfl (fun _ => rfl) (Subs.refl _) ?_
  (try simp (implicitDefEqProofs := false) [↓callI, vopsN, vopsG, ↓step_slice, ↓Am.A.step, ↓binInt, ↓binStr, vopsE0, vopsE1, -vops]; try simp (disch := omega) only [w64, wu64])
  repeat (first | refine AW.seq ?_ | refine AW.block ?_ | (refine AW.reg mix ?_; (simp (implicitDefEqProofs := false) [↓callI, vopsN, vopsG, ↓step_slice, ↓Am.A.step, ↓binInt, ↓binStr, vopsE0, vopsE1, -vops]; try simp (disch := omega) only [w64, wu64])) | (refine need.of (by first | omega | kernel_rfl) ?_) | (refine AW.skip ?_; (try simp (implicitDefEqProofs := false) [↓callI, vopsN, vopsG, ↓step_slice, ↓Am.A.step, ↓binInt, ↓binStr, vopsE0, vopsE1, -vops])) | (refine AW.ret ?_; (try simp (implicitDefEqProofs := false) [↓callI, vopsN, vopsG, ↓step_slice, ↓Am.A.step, ↓binInt, ↓binStr, vopsE0, vopsE1, -vops])) | (refine AW.exit ?_; (try simp (implicitDefEqProofs := false) [↓callI, vopsN, vopsG, ↓step_slice, ↓Am.A.step, ↓binInt, ↓binStr, vopsE0, vopsE1, -vops])))
  refine ⟨_, hm, ?_⟩
  refine CallS.pure (hg) (by first | exact plain_d _ | exact plain_tup2 _ _ | exact plain_tup3 _ _ _) rfl (fun _ => rfl) (Subs.refl _) ?_
  (try simp (implicitDefEqProofs := false) [↓callI, vopsN, vopsG, ↓step_slice, ↓Am.A.step, ↓binInt, ↓binStr, vopsE0, vopsE1, -vops]; try simp (disch := omega) only [w64, wu64])
  repeat (first | refine AW.seq ?_ | refine AW.block ?_ | (refine AW.reg mix ?_; (simp (implicitDefEqProofs := false) [↓callI, vopsN, vopsG, ↓step_slice, ↓Am.A.step, ↓binInt, ↓binStr, vopsE0, vopsE1, -vops]; try simp (disch := omega) only [w64, wu64])) | (refine need.of (by first | omega | kernel_rfl) ?_) | (refine AW.skip ?_; (try simp (implicitDefEqProofs := false) [↓callI, vopsN, vopsG, ↓step_slice, ↓Am.A.step, ↓binInt, ↓binStr, vopsE0, vopsE1, -vops])) | (refine AW.ret ?_; (try simp (implicitDefEqProofs := false) [↓callI, vopsN, vopsG, ↓step_slice, ↓Am.A.step, ↓binInt, ↓binStr, vopsE0, vopsE1, -vops])) | (refine AW.exit ?_; (try simp (implicitDefEqProofs := false) [↓callI, vopsN, vopsG, ↓step_slice, ↓Am.A.step, ↓binInt, ↓binStr, vopsE0, vopsE1, -vops])))

theorem bitsN_pow2 (e : Nat) : bitsN (2 ^ e) = e + 1 := by
  unfold bitsN
  rw [if_neg (by have := Nat.two_pow_pos e; omega), Nat.log2_two_pow]

theorem size_half {e : Nat} (h : e < 64) : size (2 ^ e) ≤ 1 := size_one (by have := Nat.pow_lt_pow_right (a := 2) (by omega) h; omega)

theorem coin_ok {k a w : Nat} (h : GoodS k a w) (cs : List Bool) (hn : cs.length ≤ 4000000) (p x r : Nat) (hp : p ≤ cs.length) (hx : x < 2 ^ w - 1) (hr : r < 2 ^ w - 1) :
    Eqn Tryz.prog n_Tlaw15_coin [.d (parD k a w), .d (BL cs), .d (.int .i64 p), .d (.int .i64 x), .d (.int .i64 r)] [] (.d (outD p (agOf cs k a x r p false))) [] := by
  refine Eqn.pure r_Tlaw15_coin (plain_d _) ?_
  have h2 : 2 ^ w - 1 ≤ 15 := by have := Nat.pow_le_pow_right (n := 2) (by omega) h.2.2; omega
  by_cases hk : k = 1
  · subst hk
    have ha : 1 ≤ a ∧ a ≤ 4 := by have := h.1; omega
    have hP := dPower_ok cs a (a + 1) p ((x : Int) - r) (by omega) (by omega) (by omega) (by omega) hp hn
    rw [show ((x : Int) - r).toNat = x - r by omega] at hP
    have e1 : IntKind.i64.wrap ((x : Int) - r) = (x : Int) - r := w64 (by omega) (by omega)
    have e2 : IntKind.i64.wrap ((a : Int) + 1) = ((a : Int) + 1) := by rw [w64 (by omega) (by omega)]
    have e3 : agOf cs 1 a x r p false = powerR cs a (a + 1) (x - r) p false := rfl
    rw [e3]
    generalize powerR cs a (a + 1) (x - r) p false = R at *
    obtain ⟨R1, R2, R3, R4⟩ := R
    simp only [c_Tlaw15_coin, parD, BL, outD] at hP ⊢
    generalize R3 - p = q3 at *
    repeat (first | refine AW.seq ?_ | refine AW.block ?_ | (refine AW.reg mix ?_; (simp (implicitDefEqProofs := false) [↓callI, vopsN, vopsG, ↓step_slice, ↓Am.A.step, ↓binInt, ↓binStr, vopsE0, vopsE1, -vops, -Bool.exists_bool]; try simp (disch := omega) only [w64, wu64])) | (refine need.of (by first | omega | kernel_rfl) ?_) | (refine AW.skip ?_; (try simp (implicitDefEqProofs := false) [↓callI, vopsN, vopsG, ↓step_slice, ↓Am.A.step, ↓binInt, ↓binStr, vopsE0, vopsE1, -vops, -Bool.exists_bool])) | (refine AW.ret ?_; (try simp (implicitDefEqProofs := false) [↓callI, vopsN, vopsG, ↓step_slice, ↓Am.A.step, ↓binInt, ↓binStr, vopsE0, vopsE1, -vops, -Bool.exists_bool])) | (refine AW.exit ?_; (try simp (implicitDefEqProofs := false) [↓callI, vopsN, vopsG, ↓step_slice, ↓Am.A.step, ↓binInt, ↓binStr, vopsE0, vopsE1, -vops, -Bool.exists_bool])))
    refine AW.cond rfl (fun h => ?_) (fun h => ?_)
    · repeat (first | refine AW.seq ?_ | refine AW.block ?_ | (refine AW.reg mix ?_; (simp (implicitDefEqProofs := false) [↓callI, vopsN, vopsG, ↓step_slice, ↓Am.A.step, ↓binInt, ↓binStr, vopsE0, vopsE1, -vops, e1, e2, -Bool.exists_bool]; try simp (disch := omega) only [w64, wu64])) | (refine need.of (by first | omega | kernel_rfl) ?_) | (refine AW.skip ?_; (try simp (implicitDefEqProofs := false) [↓callI, vopsN, vopsG, ↓step_slice, ↓Am.A.step, ↓binInt, ↓binStr, vopsE0, vopsE1, -vops, e1, e2, -Bool.exists_bool])) | (refine AW.ret ?_; (try simp (implicitDefEqProofs := false) [↓callI, vopsN, vopsG, ↓step_slice, ↓Am.A.step, ↓binInt, ↓binStr, vopsE0, vopsE1, -vops, e1, e2, -Bool.exists_bool])) | (refine AW.exit ?_; (try simp (implicitDefEqProofs := false) [↓callI, vopsN, vopsG, ↓step_slice, ↓Am.A.step, ↓binInt, ↓binStr, vopsE0, vopsE1, -vops, e1, e2, -Bool.exists_bool])))
      try simp only [e1, e2]
      refine CallS.pure (hP) (by first | exact plain_d _ | exact plain_tup2 _ _ | exact plain_tup3 _ _ _) rfl (fun _ => rfl) (Subs.refl _) ?_
      (try simp (implicitDefEqProofs := false) [↓callI, vopsN, vopsG, ↓step_slice, ↓Am.A.step, ↓binInt, ↓binStr, vopsE0, vopsE1, -vops, -Bool.exists_bool]; try simp (disch := omega) only [w64, wu64])
      repeat (first | refine AW.seq ?_ | refine AW.block ?_ | (refine AW.reg mix ?_; (simp (implicitDefEqProofs := false) [↓callI, vopsN, vopsG, ↓step_slice, ↓Am.A.step, ↓binInt, ↓binStr, vopsE0, vopsE1, -vops, -Bool.exists_bool]; try simp (disch := omega) only [w64, wu64])) | (refine need.of (by first | omega | kernel_rfl) ?_) | (refine AW.skip ?_; (try simp (implicitDefEqProofs := false) [↓callI, vopsN, vopsG, ↓step_slice, ↓Am.A.step, ↓binInt, ↓binStr, vopsE0, vopsE1, -vops, -Bool.exists_bool])) | (refine AW.ret ?_; (try simp (implicitDefEqProofs := false) [↓callI, vopsN, vopsG, ↓step_slice, ↓Am.A.step, ↓binInt, ↓binStr, vopsE0, vopsE1, -vops, -Bool.exists_bool])) | (refine AW.exit ?_; (try simp (implicitDefEqProofs := false) [↓callI, vopsN, vopsG, ↓step_slice, ↓Am.A.step, ↓binInt, ↓binStr, vopsE0, vopsE1, -vops, -Bool.exists_bool])))
    · simp at h
  · have hc1 := chance_good h hk hx
    have hc2 := chance_good h hk hr
    have b1 := expOf_small (x := x) h hk (by omega)
    have b2 := expOf_small (x := r) h hk (by omega)
    have hag : agOf cs k a x r p false = halfR cs (expOf k a x - expOf k a r) p false := by
      have := h.1
      unfold agOf expOf
      rw [if_neg hk]
      split <;> rfl
    rw [hag]
    clear hag
    have d1 := rden_ok 1 (2 ^ expOf k a x - 1) false (by have := size_le (Nat.sub_le (2 ^ expOf k a x) 1); have := size_half b1; omega)
    have d2 := rden_ok 1 (2 ^ expOf k a r - 1) false (by have := size_le (Nat.sub_le (2 ^ expOf k a r) 1); have := size_half b2; omega)
    rw [Nat.sub_add_cancel (Nat.two_pow_pos _)] at d1 d2
    have f1 := bits_ok (2 ^ expOf k a x) (by have := size_half b1; omega)
    have f2 := bits_ok (2 ^ expOf k a r) (by have := size_half b2; omega)
    rw [bitsN_pow2] at f1 f2
    have hown := own_ok k a w
    generalize expOf k a x = X at *
    generalize expOf k a r = Y at *
    have hP := dHalf_ok cs p ((X : Int) - Y) (by omega) hp hn
    rw [show ((X : Int) - Y).toNat = X - Y by omega] at hP
    generalize halfR cs (X - Y) p false = R at *
    obtain ⟨R1, R2, R3, R4⟩ := R
    have hki : ¬ (k : Int) = 1 := by omega
    simp only [c_Tlaw15_coin, parD, BL, outD, halfD] at hP hc1 hc2 hown ⊢
    generalize R3 - p = q3 at *
    have ew : IntKind.i64.wrap (((X + 1 : Nat) : Int) - ((Y + 1 : Nat) : Int)) = (X : Int) - Y := by rw [w64 (by omega) (by omega)]; omega
    generalize X + 1 = X1 at *
    generalize Y + 1 = Y1 at *
    generalize natW (2 ^ X - 1) = Zx at *
    generalize natW (2 ^ Y - 1) = Zy at *
    generalize natW (2 ^ X) = Wx at *
    generalize natW (2 ^ Y) = Wy at *
    repeat (first | refine AW.seq ?_ | refine AW.block ?_ | (refine AW.reg mix ?_; (simp (implicitDefEqProofs := false) [↓callI, vopsN, vopsG, ↓step_slice, ↓Am.A.step, ↓binInt, ↓binStr, vopsE0, vopsE1, -vops, hk, hki, -Bool.exists_bool]; try simp (disch := omega) only [w64, wu64])) | (refine need.of (by first | omega | kernel_rfl) ?_) | (refine AW.skip ?_; (try simp (implicitDefEqProofs := false) [↓callI, vopsN, vopsG, ↓step_slice, ↓Am.A.step, ↓binInt, ↓binStr, vopsE0, vopsE1, -vops, hk, hki, -Bool.exists_bool])) | (refine AW.ret ?_; (try simp (implicitDefEqProofs := false) [↓callI, vopsN, vopsG, ↓step_slice, ↓Am.A.step, ↓binInt, ↓binStr, vopsE0, vopsE1, -vops, hk, hki, -Bool.exists_bool])) | (refine AW.exit ?_; (try simp (implicitDefEqProofs := false) [↓callI, vopsN, vopsG, ↓step_slice, ↓Am.A.step, ↓binInt, ↓binStr, vopsE0, vopsE1, -vops, hk, hki, -Bool.exists_bool])))
    refine AW.cond rfl (fun h => ?_) (fun h => ?_)
    · simp [hki, hk] at h
    repeat (first | refine AW.seq ?_ | refine AW.block ?_ | (refine AW.reg mix ?_; (simp (implicitDefEqProofs := false) [↓callI, vopsN, vopsG, ↓step_slice, ↓Am.A.step, ↓binInt, ↓binStr, vopsE0, vopsE1, -vops, -Bool.exists_bool]; try simp (disch := omega) only [w64, wu64])) | (refine need.of (by first | omega | kernel_rfl) ?_) | (refine AW.skip ?_; (try simp (implicitDefEqProofs := false) [↓callI, vopsN, vopsG, ↓step_slice, ↓Am.A.step, ↓binInt, ↓binStr, vopsE0, vopsE1, -vops, -Bool.exists_bool])) | (refine AW.ret ?_; (try simp (implicitDefEqProofs := false) [↓callI, vopsN, vopsG, ↓step_slice, ↓Am.A.step, ↓binInt, ↓binStr, vopsE0, vopsE1, -vops, -Bool.exists_bool])) | (refine AW.exit ?_; (try simp (implicitDefEqProofs := false) [↓callI, vopsN, vopsG, ↓step_slice, ↓Am.A.step, ↓binInt, ↓binStr, vopsE0, vopsE1, -vops, -Bool.exists_bool])))
    refine CallS.pure (hown) (by first | exact plain_d _ | exact plain_tup2 _ _ | exact plain_tup3 _ _ _) rfl (fun _ => rfl) (Subs.refl _) ?_
    (try simp (implicitDefEqProofs := false) [↓callI, vopsN, vopsG, ↓step_slice, ↓Am.A.step, ↓binInt, ↓binStr, vopsE0, vopsE1, -vops, -Bool.exists_bool]; try simp (disch := omega) only [w64, wu64])
    repeat (first | refine AW.seq ?_ | refine AW.block ?_ | (refine AW.reg mix ?_; (simp (implicitDefEqProofs := false) [↓callI, vopsN, vopsG, ↓step_slice, ↓Am.A.step, ↓binInt, ↓binStr, vopsE0, vopsE1, -vops, -Bool.exists_bool]; try simp (disch := omega) only [w64, wu64])) | (refine need.of (by first | omega | kernel_rfl) ?_) | (refine AW.skip ?_; (try simp (implicitDefEqProofs := false) [↓callI, vopsN, vopsG, ↓step_slice, ↓Am.A.step, ↓binInt, ↓binStr, vopsE0, vopsE1, -vops, -Bool.exists_bool])) | (refine AW.ret ?_; (try simp (implicitDefEqProofs := false) [↓callI, vopsN, vopsG, ↓step_slice, ↓Am.A.step, ↓binInt, ↓binStr, vopsE0, vopsE1, -vops, -Bool.exists_bool])) | (refine AW.exit ?_; (try simp (implicitDefEqProofs := false) [↓callI, vopsN, vopsG, ↓step_slice, ↓Am.A.step, ↓binInt, ↓binStr, vopsE0, vopsE1, -vops, -Bool.exists_bool])))
    refine CallS.pure (hc1) (by first | exact plain_d _ | exact plain_tup2 _ _ | exact plain_tup3 _ _ _) rfl (fun _ => rfl) (Subs.refl _) ?_
    (try simp (implicitDefEqProofs := false) [↓callI, vopsN, vopsG, ↓step_slice, ↓Am.A.step, ↓binInt, ↓binStr, vopsE0, vopsE1, -vops, -Bool.exists_bool]; try simp (disch := omega) only [w64, wu64])
    repeat (first | refine AW.seq ?_ | refine AW.block ?_ | (refine AW.reg mix ?_; (simp (implicitDefEqProofs := false) [↓callI, vopsN, vopsG, ↓step_slice, ↓Am.A.step, ↓binInt, ↓binStr, vopsE0, vopsE1, -vops, -Bool.exists_bool]; try simp (disch := omega) only [w64, wu64])) | (refine need.of (by first | omega | kernel_rfl) ?_) | (refine AW.skip ?_; (try simp (implicitDefEqProofs := false) [↓callI, vopsN, vopsG, ↓step_slice, ↓Am.A.step, ↓binInt, ↓binStr, vopsE0, vopsE1, -vops, -Bool.exists_bool])) | (refine AW.ret ?_; (try simp (implicitDefEqProofs := false) [↓callI, vopsN, vopsG, ↓step_slice, ↓Am.A.step, ↓binInt, ↓binStr, vopsE0, vopsE1, -vops, -Bool.exists_bool])) | (refine AW.exit ?_; (try simp (implicitDefEqProofs := false) [↓callI, vopsN, vopsG, ↓step_slice, ↓Am.A.step, ↓binInt, ↓binStr, vopsE0, vopsE1, -vops, -Bool.exists_bool])))
    refine CallS.pure (hown) (by first | exact plain_d _ | exact plain_tup2 _ _ | exact plain_tup3 _ _ _) rfl (fun _ => rfl) (Subs.refl _) ?_
    (try simp (implicitDefEqProofs := false) [↓callI, vopsN, vopsG, ↓step_slice, ↓Am.A.step, ↓binInt, ↓binStr, vopsE0, vopsE1, -vops, -Bool.exists_bool]; try simp (disch := omega) only [w64, wu64])
    repeat (first | refine AW.seq ?_ | refine AW.block ?_ | (refine AW.reg mix ?_; (simp (implicitDefEqProofs := false) [↓callI, vopsN, vopsG, ↓step_slice, ↓Am.A.step, ↓binInt, ↓binStr, vopsE0, vopsE1, -vops, -Bool.exists_bool]; try simp (disch := omega) only [w64, wu64])) | (refine need.of (by first | omega | kernel_rfl) ?_) | (refine AW.skip ?_; (try simp (implicitDefEqProofs := false) [↓callI, vopsN, vopsG, ↓step_slice, ↓Am.A.step, ↓binInt, ↓binStr, vopsE0, vopsE1, -vops, -Bool.exists_bool])) | (refine AW.ret ?_; (try simp (implicitDefEqProofs := false) [↓callI, vopsN, vopsG, ↓step_slice, ↓Am.A.step, ↓binInt, ↓binStr, vopsE0, vopsE1, -vops, -Bool.exists_bool])) | (refine AW.exit ?_; (try simp (implicitDefEqProofs := false) [↓callI, vopsN, vopsG, ↓step_slice, ↓Am.A.step, ↓binInt, ↓binStr, vopsE0, vopsE1, -vops, -Bool.exists_bool])))
    refine CallS.pure (hc2) (by first | exact plain_d _ | exact plain_tup2 _ _ | exact plain_tup3 _ _ _) rfl (fun _ => rfl) (Subs.refl _) ?_
    (try simp (implicitDefEqProofs := false) [↓callI, vopsN, vopsG, ↓step_slice, ↓Am.A.step, ↓binInt, ↓binStr, vopsE0, vopsE1, -vops, -Bool.exists_bool]; try simp (disch := omega) only [w64, wu64])
    repeat (first | refine AW.seq ?_ | refine AW.block ?_ | (refine AW.reg mix ?_; (simp (implicitDefEqProofs := false) [↓callI, vopsN, vopsG, ↓step_slice, ↓Am.A.step, ↓binInt, ↓binStr, vopsE0, vopsE1, -vops, -Bool.exists_bool]; try simp (disch := omega) only [w64, wu64])) | (refine need.of (by first | omega | kernel_rfl) ?_) | (refine AW.skip ?_; (try simp (implicitDefEqProofs := false) [↓callI, vopsN, vopsG, ↓step_slice, ↓Am.A.step, ↓binInt, ↓binStr, vopsE0, vopsE1, -vops, -Bool.exists_bool])) | (refine AW.ret ?_; (try simp (implicitDefEqProofs := false) [↓callI, vopsN, vopsG, ↓step_slice, ↓Am.A.step, ↓binInt, ↓binStr, vopsE0, vopsE1, -vops, -Bool.exists_bool])) | (refine AW.exit ?_; (try simp (implicitDefEqProofs := false) [↓callI, vopsN, vopsG, ↓step_slice, ↓Am.A.step, ↓binInt, ↓binStr, vopsE0, vopsE1, -vops, -Bool.exists_bool])))
    refine AW.cond rfl (fun h => ?_) (fun h => ?_)
    · simp at h
    repeat (first | refine AW.seq ?_ | refine AW.block ?_ | (refine AW.reg mix ?_; (simp (implicitDefEqProofs := false) [↓callI, vopsN, vopsG, ↓step_slice, ↓Am.A.step, ↓binInt, ↓binStr, vopsE0, vopsE1, -vops, -Bool.exists_bool]; try simp (disch := omega) only [w64, wu64])) | (refine need.of (by first | omega | kernel_rfl) ?_) | (refine AW.skip ?_; (try simp (implicitDefEqProofs := false) [↓callI, vopsN, vopsG, ↓step_slice, ↓Am.A.step, ↓binInt, ↓binStr, vopsE0, vopsE1, -vops, -Bool.exists_bool])) | (refine AW.ret ?_; (try simp (implicitDefEqProofs := false) [↓callI, vopsN, vopsG, ↓step_slice, ↓Am.A.step, ↓binInt, ↓binStr, vopsE0, vopsE1, -vops, -Bool.exists_bool])) | (refine AW.exit ?_; (try simp (implicitDefEqProofs := false) [↓callI, vopsN, vopsG, ↓step_slice, ↓Am.A.step, ↓binInt, ↓binStr, vopsE0, vopsE1, -vops, -Bool.exists_bool])))
    refine CallS.pure (d1) (by first | exact plain_d _ | exact plain_tup2 _ _ | exact plain_tup3 _ _ _) rfl (fun _ => rfl) (Subs.refl _) ?_
    (try simp (implicitDefEqProofs := false) [↓callI, vopsN, vopsG, ↓step_slice, ↓Am.A.step, ↓binInt, ↓binStr, vopsE0, vopsE1, -vops, -Bool.exists_bool]; try simp (disch := omega) only [w64, wu64])
    repeat (first | refine AW.seq ?_ | refine AW.block ?_ | (refine AW.reg mix ?_; (simp (implicitDefEqProofs := false) [↓callI, vopsN, vopsG, ↓step_slice, ↓Am.A.step, ↓binInt, ↓binStr, vopsE0, vopsE1, -vops, -Bool.exists_bool]; try simp (disch := omega) only [w64, wu64])) | (refine need.of (by first | omega | kernel_rfl) ?_) | (refine AW.skip ?_; (try simp (implicitDefEqProofs := false) [↓callI, vopsN, vopsG, ↓step_slice, ↓Am.A.step, ↓binInt, ↓binStr, vopsE0, vopsE1, -vops, -Bool.exists_bool])) | (refine AW.ret ?_; (try simp (implicitDefEqProofs := false) [↓callI, vopsN, vopsG, ↓step_slice, ↓Am.A.step, ↓binInt, ↓binStr, vopsE0, vopsE1, -vops, -Bool.exists_bool])) | (refine AW.exit ?_; (try simp (implicitDefEqProofs := false) [↓callI, vopsN, vopsG, ↓step_slice, ↓Am.A.step, ↓binInt, ↓binStr, vopsE0, vopsE1, -vops, -Bool.exists_bool])))
    refine CallS.pure (f1) (by first | exact plain_d _ | exact plain_tup2 _ _ | exact plain_tup3 _ _ _) rfl (fun _ => rfl) (Subs.refl _) ?_
    (try simp (implicitDefEqProofs := false) [↓callI, vopsN, vopsG, ↓step_slice, ↓Am.A.step, ↓binInt, ↓binStr, vopsE0, vopsE1, -vops, -Bool.exists_bool]; try simp (disch := omega) only [w64, wu64])
    repeat (first | refine AW.seq ?_ | refine AW.block ?_ | (refine AW.reg mix ?_; (simp (implicitDefEqProofs := false) [↓callI, vopsN, vopsG, ↓step_slice, ↓Am.A.step, ↓binInt, ↓binStr, vopsE0, vopsE1, -vops, -Bool.exists_bool]; try simp (disch := omega) only [w64, wu64])) | (refine need.of (by first | omega | kernel_rfl) ?_) | (refine AW.skip ?_; (try simp (implicitDefEqProofs := false) [↓callI, vopsN, vopsG, ↓step_slice, ↓Am.A.step, ↓binInt, ↓binStr, vopsE0, vopsE1, -vops, -Bool.exists_bool])) | (refine AW.ret ?_; (try simp (implicitDefEqProofs := false) [↓callI, vopsN, vopsG, ↓step_slice, ↓Am.A.step, ↓binInt, ↓binStr, vopsE0, vopsE1, -vops, -Bool.exists_bool])) | (refine AW.exit ?_; (try simp (implicitDefEqProofs := false) [↓callI, vopsN, vopsG, ↓step_slice, ↓Am.A.step, ↓binInt, ↓binStr, vopsE0, vopsE1, -vops, -Bool.exists_bool])))
    refine CallS.pure (d2) (by first | exact plain_d _ | exact plain_tup2 _ _ | exact plain_tup3 _ _ _) rfl (fun _ => rfl) (Subs.refl _) ?_
    (try simp (implicitDefEqProofs := false) [↓callI, vopsN, vopsG, ↓step_slice, ↓Am.A.step, ↓binInt, ↓binStr, vopsE0, vopsE1, -vops, -Bool.exists_bool]; try simp (disch := omega) only [w64, wu64])
    repeat (first | refine AW.seq ?_ | refine AW.block ?_ | (refine AW.reg mix ?_; (simp (implicitDefEqProofs := false) [↓callI, vopsN, vopsG, ↓step_slice, ↓Am.A.step, ↓binInt, ↓binStr, vopsE0, vopsE1, -vops, -Bool.exists_bool]; try simp (disch := omega) only [w64, wu64])) | (refine need.of (by first | omega | kernel_rfl) ?_) | (refine AW.skip ?_; (try simp (implicitDefEqProofs := false) [↓callI, vopsN, vopsG, ↓step_slice, ↓Am.A.step, ↓binInt, ↓binStr, vopsE0, vopsE1, -vops, -Bool.exists_bool])) | (refine AW.ret ?_; (try simp (implicitDefEqProofs := false) [↓callI, vopsN, vopsG, ↓step_slice, ↓Am.A.step, ↓binInt, ↓binStr, vopsE0, vopsE1, -vops, -Bool.exists_bool])) | (refine AW.exit ?_; (try simp (implicitDefEqProofs := false) [↓callI, vopsN, vopsG, ↓step_slice, ↓Am.A.step, ↓binInt, ↓binStr, vopsE0, vopsE1, -vops, -Bool.exists_bool])))
    refine CallS.pure (f2) (by first | exact plain_d _ | exact plain_tup2 _ _ | exact plain_tup3 _ _ _) rfl (fun _ => rfl) (Subs.refl _) ?_
    (try simp (implicitDefEqProofs := false) [↓callI, vopsN, vopsG, ↓step_slice, ↓Am.A.step, ↓binInt, ↓binStr, vopsE0, vopsE1, -vops, ew, -Bool.exists_bool]; try simp (disch := omega) only [w64, wu64])
    repeat (first | refine AW.seq ?_ | refine AW.block ?_ | (refine AW.reg mix ?_; (simp (implicitDefEqProofs := false) [↓callI, vopsN, vopsG, ↓step_slice, ↓Am.A.step, ↓binInt, ↓binStr, vopsE0, vopsE1, -vops, ew, -Bool.exists_bool]; try simp (disch := omega) only [w64, wu64])) | (refine need.of (by first | omega | kernel_rfl) ?_) | (refine AW.skip ?_; (try simp (implicitDefEqProofs := false) [↓callI, vopsN, vopsG, ↓step_slice, ↓Am.A.step, ↓binInt, ↓binStr, vopsE0, vopsE1, -vops, ew, -Bool.exists_bool])) | (refine AW.ret ?_; (try simp (implicitDefEqProofs := false) [↓callI, vopsN, vopsG, ↓step_slice, ↓Am.A.step, ↓binInt, ↓binStr, vopsE0, vopsE1, -vops, ew, -Bool.exists_bool])) | (refine AW.exit ?_; (try simp (implicitDefEqProofs := false) [↓callI, vopsN, vopsG, ↓step_slice, ↓Am.A.step, ↓binInt, ↓binStr, vopsE0, vopsE1, -vops, ew, -Bool.exists_bool])))
    try simp only [ew]
    refine CallS.pure (hP) (by first | exact plain_d _ | exact plain_tup2 _ _ | exact plain_tup3 _ _ _) rfl (fun _ => rfl) (Subs.refl _) ?_
    (try simp (implicitDefEqProofs := false) [↓callI, vopsN, vopsG, ↓step_slice, ↓Am.A.step, ↓binInt, ↓binStr, vopsE0, vopsE1, -vops, -Bool.exists_bool]; try simp (disch := omega) only [w64, wu64])
    repeat (first | refine AW.seq ?_ | refine AW.block ?_ | (refine AW.reg mix ?_; (simp (implicitDefEqProofs := false) [↓callI, vopsN, vopsG, ↓step_slice, ↓Am.A.step, ↓binInt, ↓binStr, vopsE0, vopsE1, -vops, -Bool.exists_bool]; try simp (disch := omega) only [w64, wu64])) | (refine need.of (by first | omega | kernel_rfl) ?_) | (refine AW.skip ?_; (try simp (implicitDefEqProofs := false) [↓callI, vopsN, vopsG, ↓step_slice, ↓Am.A.step, ↓binInt, ↓binStr, vopsE0, vopsE1, -vops, -Bool.exists_bool])) | (refine AW.ret ?_; (try simp (implicitDefEqProofs := false) [↓callI, vopsN, vopsG, ↓step_slice, ↓Am.A.step, ↓binInt, ↓binStr, vopsE0, vopsE1, -vops, -Bool.exists_bool])) | (refine AW.exit ?_; (try simp (implicitDefEqProofs := false) [↓callI, vopsN, vopsG, ↓step_slice, ↓Am.A.step, ↓binInt, ↓binStr, vopsE0, vopsE1, -vops, -Bool.exists_bool])))
end
end Go.Proofs.YtakjegcjeffmgaaGreat.Am
namespace Go.Proofs.YtakjegcjeffmgaaGreat.Am
section
open Go.RowKit
set_option maxRecDepth 100000
set_option linter.unusedSimpArgs false
set_option linter.unusedVariables false

theorem subs1 {x y : V} (h : Sub1 x y) : Subs [x] [y] := fun m vs hv => by
  obtain ⟨v, r, rfl, h1, h2⟩ := V.reps_cons'.1 hv
  exact V.reps_cons.2 ⟨h m v h1, h2⟩

theorem inc_good {k a w : Nat} (h : GoodS k a w) (cs : List Bool) (hcs : cs.length ≤ 4000000) (x : Nat) (hx : x ≤ 2 ^ w - 1) (f : Bool) (p : Nat) (dd : Bool) (hp : p ≤ cs.length) (S : Int × Nat × Bool × Nat × Bool) (hS : S = addL (stOf cs k a) (2 ^ w - 1) 1 x f p dd) :
    Eqn Tryz.prog n_chain_Param_Inc [.d (parD k a w), .p 0 0, .d (.agg [.int .i64 x, .bool f])] [tapeO cs p dd] (.tup [.d (.agg [.int .i64 (if S.1 = 0 then S.2.1 else x : Nat), .bool (if S.1 = 0 then S.2.2.1 else f)]), .d (.int .i64 S.1)]) [tapeO cs S.2.2.2.1 S.2.2.2.2] := by
  refine Eqn.obj1 r_chain_Param_Inc (plain_tup2 _ _) ⟨rfl, fun _ => rfl⟩ ?_
  have hh := add_good h cs hcs x hx f 1 (by omega) p dd hp S hS
  clear hS
  generalize (if S.1 = 0 then S.2.1 else x : Nat) = z at *
  generalize (if S.1 = 0 then S.2.2.1 else f) = y at *
  simp only [c_chain_Param_Inc, parD] at hh ⊢
  repeat (first | refine AW.seq ?_ | refine AW.block ?_ | (refine AW.reg mix ?_; (simp (implicitDefEqProofs := false) [↓callI, vopsN, vopsG, ↓step_slice, ↓Am.A.step, ↓binInt, ↓binStr, vopsE0, vopsE1, -vops, -Bool.exists_bool]; try simp (disch := omega) only [w64, wu64])) | (refine need.of (by first | omega | kernel_rfl) ?_) | (refine AW.skip ?_; (try simp (implicitDefEqProofs := false) [↓callI, vopsN, vopsG, ↓step_slice, ↓Am.A.step, ↓binInt, ↓binStr, vopsE0, vopsE1, -vops, -Bool.exists_bool])) | (refine AW.ret ?_; (try simp (implicitDefEqProofs := false) [↓callI, vopsN, vopsG, ↓step_slice, ↓Am.A.step, ↓binInt, ↓binStr, vopsE0, vopsE1, -vops, -Bool.exists_bool])) | (refine AW.exit ?_; (try simp (implicitDefEqProofs := false) [↓callI, vopsN, vopsG, ↓step_slice, ↓Am.A.step, ↓binInt, ↓binStr, vopsE0, vopsE1, -vops, -Bool.exists_bool])))
  refine CallS.obj1 0 (hh) (by first | exact plain_d _ | exact plain_tup2 _ _ | exact plain_tup3 _ _ _) ⟨rfl, fun _ => rfl⟩ ⟨rfl, fun _ => rfl⟩ rfl (by rfl) (Subs.of (by simp)) ?_
  (try simp (implicitDefEqProofs := false) [↓callI, vopsN, vopsG, ↓step_slice, ↓Am.A.step, ↓binInt, ↓binStr, vopsE0, vopsE1, -vops, -Bool.exists_bool]; try simp (disch := omega) only [w64, wu64])
  repeat (first | refine AW.seq ?_ | refine AW.block ?_ | (refine AW.reg mix ?_; (simp (implicitDefEqProofs := false) [↓callI, vopsN, vopsG, ↓step_slice, ↓Am.A.step, ↓binInt, ↓binStr, vopsE0, vopsE1, -vops, -Bool.exists_bool]; try simp (disch := omega) only [w64, wu64])) | (refine need.of (by first | omega | kernel_rfl) ?_) | (refine AW.skip ?_; (try simp (implicitDefEqProofs := false) [↓callI, vopsN, vopsG, ↓step_slice, ↓Am.A.step, ↓binInt, ↓binStr, vopsE0, vopsE1, -vops, -Bool.exists_bool])) | (refine AW.ret ?_; (try simp (implicitDefEqProofs := false) [↓callI, vopsN, vopsG, ↓step_slice, ↓Am.A.step, ↓binInt, ↓binStr, vopsE0, vopsE1, -vops, -Bool.exists_bool])) | (refine AW.exit ?_; (try simp (implicitDefEqProofs := false) [↓callI, vopsN, vopsG, ↓step_slice, ↓Am.A.step, ↓binInt, ↓binStr, vopsE0, vopsE1, -vops, -Bool.exists_bool])))

theorem awakeC_ok : Eqn Tryz.prog n_Tlaw15_awake [] [] (.d (.bool true)) [] := by
  refine Eqn.pure r_Tlaw15_awake (plain_d _) ?_
  simp only [c_Tlaw15_awake]
  have hg : GoodS 1 1 2 := ⟨by omega, by omega, by omega⟩
  have hi := inc_good hg [] (by simp) 0 (by omega) false 0 false (by simp) (0, 1, false, 0, false) (by simp [addL, stOf, stepM, wrongM, okK, powerR])
  have hc := good_check hg
  have ht := top_ok 1 1 2 (by omega) hc
  simp only [parD] at hi hc ht
  repeat (first | refine AW.seq ?_ | refine AW.block ?_ | (refine AW.reg mix ?_; (simp (implicitDefEqProofs := false) [↓callI, vopsN, vopsG, ↓step_slice, ↓Am.A.step, ↓binInt, ↓binStr, vopsE0, vopsE1, -vops, -Bool.exists_bool]; try simp (disch := omega) only [w64, wu64])) | (refine need.of (by first | omega | kernel_rfl) ?_) | (refine AW.skip ?_; (try simp (implicitDefEqProofs := false) [↓callI, vopsN, vopsG, ↓step_slice, ↓Am.A.step, ↓binInt, ↓binStr, vopsE0, vopsE1, -vops, -Bool.exists_bool])) | (refine AW.ret ?_; (try simp (implicitDefEqProofs := false) [↓callI, vopsN, vopsG, ↓step_slice, ↓Am.A.step, ↓binInt, ↓binStr, vopsE0, vopsE1, -vops, -Bool.exists_bool])) | (refine AW.exit ?_; (try simp (implicitDefEqProofs := false) [↓callI, vopsN, vopsG, ↓step_slice, ↓Am.A.step, ↓binInt, ↓binStr, vopsE0, vopsE1, -vops, -Bool.exists_bool])))
  refine CallS.new1 (new_ok [] (by simp)) ⟨rfl, fun _ => rfl⟩ rfl (fun _ => rfl) (subs1 Sub1.nil) ?_
  repeat (first | refine AW.seq ?_ | refine AW.block ?_ | (refine AW.reg mix ?_; (simp (implicitDefEqProofs := false) [↓callI, vopsN, vopsG, ↓step_slice, ↓Am.A.step, ↓binInt, ↓binStr, vopsE0, vopsE1, -vops, -Bool.exists_bool]; try simp (disch := omega) only [w64, wu64])) | (refine need.of (by first | omega | kernel_rfl) ?_) | (refine AW.skip ?_; (try simp (implicitDefEqProofs := false) [↓callI, vopsN, vopsG, ↓step_slice, ↓Am.A.step, ↓binInt, ↓binStr, vopsE0, vopsE1, -vops, -Bool.exists_bool])) | (refine AW.ret ?_; (try simp (implicitDefEqProofs := false) [↓callI, vopsN, vopsG, ↓step_slice, ↓Am.A.step, ↓binInt, ↓binStr, vopsE0, vopsE1, -vops, -Bool.exists_bool])) | (refine AW.exit ?_; (try simp (implicitDefEqProofs := false) [↓callI, vopsN, vopsG, ↓step_slice, ↓Am.A.step, ↓binInt, ↓binStr, vopsE0, vopsE1, -vops, -Bool.exists_bool])))
  refine CallS.obj1 1 (hi) (by first | exact plain_d _ | exact plain_tup2 _ _ | exact plain_tup3 _ _ _) ⟨rfl, fun _ => rfl⟩ ⟨rfl, fun _ => rfl⟩ rfl (by rfl) (Subs.of (by simp)) ?_
  (try simp (implicitDefEqProofs := false) [↓callI, vopsN, vopsG, ↓step_slice, ↓Am.A.step, ↓binInt, ↓binStr, vopsE0, vopsE1, -vops, -Bool.exists_bool]; try simp (disch := omega) only [w64, wu64])
  repeat (first | refine AW.seq ?_ | refine AW.block ?_ | (refine AW.reg mix ?_; (simp (implicitDefEqProofs := false) [↓callI, vopsN, vopsG, ↓step_slice, ↓Am.A.step, ↓binInt, ↓binStr, vopsE0, vopsE1, -vops, -Bool.exists_bool]; try simp (disch := omega) only [w64, wu64])) | (refine need.of (by first | omega | kernel_rfl) ?_) | (refine AW.skip ?_; (try simp (implicitDefEqProofs := false) [↓callI, vopsN, vopsG, ↓step_slice, ↓Am.A.step, ↓binInt, ↓binStr, vopsE0, vopsE1, -vops, -Bool.exists_bool])) | (refine AW.ret ?_; (try simp (implicitDefEqProofs := false) [↓callI, vopsN, vopsG, ↓step_slice, ↓Am.A.step, ↓binInt, ↓binStr, vopsE0, vopsE1, -vops, -Bool.exists_bool])) | (refine AW.exit ?_; (try simp (implicitDefEqProofs := false) [↓callI, vopsN, vopsG, ↓step_slice, ↓Am.A.step, ↓binInt, ↓binStr, vopsE0, vopsE1, -vops, -Bool.exists_bool])))
  refine CallS.pure (hc) (by first | exact plain_d _ | exact plain_tup2 _ _ | exact plain_tup3 _ _ _) rfl (fun _ => rfl) (Subs.refl _) ?_
  (try simp (implicitDefEqProofs := false) [↓callI, vopsN, vopsG, ↓step_slice, ↓Am.A.step, ↓binInt, ↓binStr, vopsE0, vopsE1, -vops, -Bool.exists_bool]; try simp (disch := omega) only [w64, wu64])
  repeat (first | refine AW.seq ?_ | refine AW.block ?_ | (refine AW.reg mix ?_; (simp (implicitDefEqProofs := false) [↓callI, vopsN, vopsG, ↓step_slice, ↓Am.A.step, ↓binInt, ↓binStr, vopsE0, vopsE1, -vops, -Bool.exists_bool]; try simp (disch := omega) only [w64, wu64])) | (refine need.of (by first | omega | kernel_rfl) ?_) | (refine AW.skip ?_; (try simp (implicitDefEqProofs := false) [↓callI, vopsN, vopsG, ↓step_slice, ↓Am.A.step, ↓binInt, ↓binStr, vopsE0, vopsE1, -vops, -Bool.exists_bool])) | (refine AW.ret ?_; (try simp (implicitDefEqProofs := false) [↓callI, vopsN, vopsG, ↓step_slice, ↓Am.A.step, ↓binInt, ↓binStr, vopsE0, vopsE1, -vops, -Bool.exists_bool])) | (refine AW.exit ?_; (try simp (implicitDefEqProofs := false) [↓callI, vopsN, vopsG, ↓step_slice, ↓Am.A.step, ↓binInt, ↓binStr, vopsE0, vopsE1, -vops, -Bool.exists_bool])))
  refine CallS.pure (ht) (by first | exact plain_d _ | exact plain_tup2 _ _ | exact plain_tup3 _ _ _) rfl (fun _ => rfl) (Subs.refl _) ?_
  (try simp (implicitDefEqProofs := false) [↓callI, vopsN, vopsG, ↓step_slice, ↓Am.A.step, ↓binInt, ↓binStr, vopsE0, vopsE1, -vops, -Bool.exists_bool]; try simp (disch := omega) only [w64, wu64])
  repeat (first | refine AW.seq ?_ | refine AW.block ?_ | (refine AW.reg mix ?_; (simp (implicitDefEqProofs := false) [↓callI, vopsN, vopsG, ↓step_slice, ↓Am.A.step, ↓binInt, ↓binStr, vopsE0, vopsE1, -vops, -Bool.exists_bool]; try simp (disch := omega) only [w64, wu64])) | (refine need.of (by first | omega | kernel_rfl) ?_) | (refine AW.skip ?_; (try simp (implicitDefEqProofs := false) [↓callI, vopsN, vopsG, ↓step_slice, ↓Am.A.step, ↓binInt, ↓binStr, vopsE0, vopsE1, -vops, -Bool.exists_bool])) | (refine AW.ret ?_; (try simp (implicitDefEqProofs := false) [↓callI, vopsN, vopsG, ↓step_slice, ↓Am.A.step, ↓binInt, ↓binStr, vopsE0, vopsE1, -vops, -Bool.exists_bool])) | (refine AW.exit ?_; (try simp (implicitDefEqProofs := false) [↓callI, vopsN, vopsG, ↓step_slice, ↓Am.A.step, ↓binInt, ↓binStr, vopsE0, vopsE1, -vops, -Bool.exists_bool])))
end
end Go.Proofs.YtakjegcjeffmgaaGreat.Am
namespace Go.Proofs.YtakjegcjeffmgaaGreat.Am
section
open Go.RowKit
set_option maxRecDepth 100000
set_option linter.unusedSimpArgs false
set_option linter.unusedVariables false

theorem at_bad1 (k a : Int) (w : Nat) (w2 : w ≤ 10) (x : Int) (h : x < 0 ∨ (2 ^ w - 1 : Nat) < x) (hc : Eqn Tryz.prog n_chain_Param_Check [.d (parD k a w)] [] (.d (.int .i64 0)) []) : Eqn Tryz.prog n_chain_Param_at [.d (parD k a w), .d (.sl 1 [.int .i64 x])] [] (.d (.int .i64 2)) [] := by
  refine Eqn.pure r_chain_Param_at (plain_d _) ?_
  have ht := top_ok k a w w2 hc
  simp only [c_chain_Param_at, parD] at hc ht ⊢
  generalize 2 ^ w - 1 = S at *
  repeat (first | refine AW.seq ?_ | refine AW.block ?_ | (refine AW.reg mix ?_; (simp (implicitDefEqProofs := false) [↓callI, vopsN, vopsG, ↓step_slice, ↓Am.A.step, ↓binInt, ↓binStr, vopsE0, vopsE1, -vops]; try simp (disch := omega) only [w64, wu64])) | (refine need.of (by first | omega | kernel_rfl) ?_) | (refine AW.skip ?_; (try simp (implicitDefEqProofs := false) [↓callI, vopsN, vopsG, ↓step_slice, ↓Am.A.step, ↓binInt, ↓binStr, vopsE0, vopsE1, -vops])) | (refine AW.ret ?_; (try simp (implicitDefEqProofs := false) [↓callI, vopsN, vopsG, ↓step_slice, ↓Am.A.step, ↓binInt, ↓binStr, vopsE0, vopsE1, -vops])) | (refine AW.exit ?_; (try simp (implicitDefEqProofs := false) [↓callI, vopsN, vopsG, ↓step_slice, ↓Am.A.step, ↓binInt, ↓binStr, vopsE0, vopsE1, -vops])))
  refine CallS.pure (hc) (by first | exact plain_d _ | exact plain_tup2 _ _ | exact plain_tup3 _ _ _) rfl (fun _ => rfl) (Subs.refl _) ?_
  (try simp (implicitDefEqProofs := false) [↓callI, vopsN, vopsG, ↓step_slice, ↓Am.A.step, ↓binInt, ↓binStr, vopsE0, vopsE1, -vops]; try simp (disch := omega) only [w64, wu64])
  repeat (first | refine AW.seq ?_ | refine AW.block ?_ | (refine AW.reg mix ?_; (simp (implicitDefEqProofs := false) [↓callI, vopsN, vopsG, ↓step_slice, ↓Am.A.step, ↓binInt, ↓binStr, vopsE0, vopsE1, -vops]; try simp (disch := omega) only [w64, wu64])) | (refine need.of (by first | omega | kernel_rfl) ?_) | (refine AW.skip ?_; (try simp (implicitDefEqProofs := false) [↓callI, vopsN, vopsG, ↓step_slice, ↓Am.A.step, ↓binInt, ↓binStr, vopsE0, vopsE1, -vops])) | (refine AW.ret ?_; (try simp (implicitDefEqProofs := false) [↓callI, vopsN, vopsG, ↓step_slice, ↓Am.A.step, ↓binInt, ↓binStr, vopsE0, vopsE1, -vops])) | (refine AW.exit ?_; (try simp (implicitDefEqProofs := false) [↓callI, vopsN, vopsG, ↓step_slice, ↓Am.A.step, ↓binInt, ↓binStr, vopsE0, vopsE1, -vops])))
  refine AW.cond rfl (fun h => ?_) (fun h => ?_)
  · simp at h
  repeat (first | refine AW.seq ?_ | refine AW.block ?_ | (refine AW.reg mix ?_; (simp (implicitDefEqProofs := false) [↓callI, vopsN, vopsG, ↓step_slice, ↓Am.A.step, ↓binInt, ↓binStr, vopsE0, vopsE1, -vops]; try simp (disch := omega) only [w64, wu64])) | (refine need.of (by first | omega | kernel_rfl) ?_) | (refine AW.skip ?_; (try simp (implicitDefEqProofs := false) [↓callI, vopsN, vopsG, ↓step_slice, ↓Am.A.step, ↓binInt, ↓binStr, vopsE0, vopsE1, -vops])) | (refine AW.ret ?_; (try simp (implicitDefEqProofs := false) [↓callI, vopsN, vopsG, ↓step_slice, ↓Am.A.step, ↓binInt, ↓binStr, vopsE0, vopsE1, -vops])) | (refine AW.exit ?_; (try simp (implicitDefEqProofs := false) [↓callI, vopsN, vopsG, ↓step_slice, ↓Am.A.step, ↓binInt, ↓binStr, vopsE0, vopsE1, -vops])))
  refine AW.loopT (α := Nat) 1 (fun i => [(15, .d (.int .i64 (i : Int)))]) (fun i => []) (fun i => i = 0) (fun i => 1 - i) 0 ?_ ?_ rfl ?_ ?_ ?_
  · simp
  · simp
  · simp
  · simp
  rintro i rfl
  simp
  by_cases h0 : x < 0
  · repeat (first | refine AW.seq ?_ | refine AW.block ?_ | (refine AW.reg mix ?_; (simp (implicitDefEqProofs := false) [↓callI, vopsN, vopsG, ↓step_slice, ↓Am.A.step, ↓binInt, ↓binStr, vopsE0, vopsE1, -vops]; try simp (disch := omega) only [w64, wu64])) | (refine need.of (by first | omega | kernel_rfl) ?_) | (refine AW.skip ?_; (try simp (implicitDefEqProofs := false) [↓callI, vopsN, vopsG, ↓step_slice, ↓Am.A.step, ↓binInt, ↓binStr, vopsE0, vopsE1, -vops])) | (refine AW.ret ?_; (try simp (implicitDefEqProofs := false) [↓callI, vopsN, vopsG, ↓step_slice, ↓Am.A.step, ↓binInt, ↓binStr, vopsE0, vopsE1, -vops])) | (refine AW.exit ?_; (try simp (implicitDefEqProofs := false) [↓callI, vopsN, vopsG, ↓step_slice, ↓Am.A.step, ↓binInt, ↓binStr, vopsE0, vopsE1, -vops])))
    refine AW.cond rfl (fun h => ?_) (fun h => ?_)
    · repeat (first | refine AW.seq ?_ | refine AW.block ?_ | (refine AW.reg mix ?_; (simp (implicitDefEqProofs := false) [↓callI, vopsN, vopsG, ↓step_slice, ↓Am.A.step, ↓binInt, ↓binStr, vopsE0, vopsE1, -vops, h0]; try simp (disch := omega) only [w64, wu64])) | (refine need.of (by first | omega | kernel_rfl) ?_) | (refine AW.skip ?_; (try simp (implicitDefEqProofs := false) [↓callI, vopsN, vopsG, ↓step_slice, ↓Am.A.step, ↓binInt, ↓binStr, vopsE0, vopsE1, -vops, h0])) | (refine AW.ret ?_; (try simp (implicitDefEqProofs := false) [↓callI, vopsN, vopsG, ↓step_slice, ↓Am.A.step, ↓binInt, ↓binStr, vopsE0, vopsE1, -vops, h0])) | (refine AW.exit ?_; (try simp (implicitDefEqProofs := false) [↓callI, vopsN, vopsG, ↓step_slice, ↓Am.A.step, ↓binInt, ↓binStr, vopsE0, vopsE1, -vops, h0])))
      refine AW.cond rfl (fun h => ?_) (fun h => ?_)
      · repeat (first | refine AW.seq ?_ | refine AW.block ?_ | (refine AW.reg mix ?_; (simp (implicitDefEqProofs := false) [↓callI, vopsN, vopsG, ↓step_slice, ↓Am.A.step, ↓binInt, ↓binStr, vopsE0, vopsE1, -vops]; try simp (disch := omega) only [w64, wu64])) | (refine need.of (by first | omega | kernel_rfl) ?_) | (refine AW.skip ?_; (try simp (implicitDefEqProofs := false) [↓callI, vopsN, vopsG, ↓step_slice, ↓Am.A.step, ↓binInt, ↓binStr, vopsE0, vopsE1, -vops])) | (refine AW.ret ?_; (try simp (implicitDefEqProofs := false) [↓callI, vopsN, vopsG, ↓step_slice, ↓Am.A.step, ↓binInt, ↓binStr, vopsE0, vopsE1, -vops])) | (refine AW.exit ?_; (try simp (implicitDefEqProofs := false) [↓callI, vopsN, vopsG, ↓step_slice, ↓Am.A.step, ↓binInt, ↓binStr, vopsE0, vopsE1, -vops])))
      · simp [h0] at h
    · simp at h
  · have h1 : (S : Int) < x := by omega
    repeat (first | refine AW.seq ?_ | refine AW.block ?_ | (refine AW.reg mix ?_; (simp (implicitDefEqProofs := false) [↓callI, vopsN, vopsG, ↓step_slice, ↓Am.A.step, ↓binInt, ↓binStr, vopsE0, vopsE1, -vops]; try simp (disch := omega) only [w64, wu64])) | (refine need.of (by first | omega | kernel_rfl) ?_) | (refine AW.skip ?_; (try simp (implicitDefEqProofs := false) [↓callI, vopsN, vopsG, ↓step_slice, ↓Am.A.step, ↓binInt, ↓binStr, vopsE0, vopsE1, -vops])) | (refine AW.ret ?_; (try simp (implicitDefEqProofs := false) [↓callI, vopsN, vopsG, ↓step_slice, ↓Am.A.step, ↓binInt, ↓binStr, vopsE0, vopsE1, -vops])) | (refine AW.exit ?_; (try simp (implicitDefEqProofs := false) [↓callI, vopsN, vopsG, ↓step_slice, ↓Am.A.step, ↓binInt, ↓binStr, vopsE0, vopsE1, -vops])))
    refine AW.cond rfl (fun h => ?_) (fun h => ?_)
    · repeat (first | refine AW.seq ?_ | refine AW.block ?_ | (refine AW.reg mix ?_; (simp (implicitDefEqProofs := false) [↓callI, vopsN, vopsG, ↓step_slice, ↓Am.A.step, ↓binInt, ↓binStr, vopsE0, vopsE1, -vops, h0]; try simp (disch := omega) only [w64, wu64])) | (refine need.of (by first | omega | kernel_rfl) ?_) | (refine AW.skip ?_; (try simp (implicitDefEqProofs := false) [↓callI, vopsN, vopsG, ↓step_slice, ↓Am.A.step, ↓binInt, ↓binStr, vopsE0, vopsE1, -vops, h0])) | (refine AW.ret ?_; (try simp (implicitDefEqProofs := false) [↓callI, vopsN, vopsG, ↓step_slice, ↓Am.A.step, ↓binInt, ↓binStr, vopsE0, vopsE1, -vops, h0])) | (refine AW.exit ?_; (try simp (implicitDefEqProofs := false) [↓callI, vopsN, vopsG, ↓step_slice, ↓Am.A.step, ↓binInt, ↓binStr, vopsE0, vopsE1, -vops, h0])))
      refine CallS.pure (ht) (by first | exact plain_d _ | exact plain_tup2 _ _ | exact plain_tup3 _ _ _) rfl (fun _ => rfl) (Subs.refl _) ?_
      (try simp (implicitDefEqProofs := false) [↓callI, vopsN, vopsG, ↓step_slice, ↓Am.A.step, ↓binInt, ↓binStr, vopsE0, vopsE1, -vops, h1]; try simp (disch := omega) only [w64, wu64])
      repeat (first | refine AW.seq ?_ | refine AW.block ?_ | (refine AW.reg mix ?_; (simp (implicitDefEqProofs := false) [↓callI, vopsN, vopsG, ↓step_slice, ↓Am.A.step, ↓binInt, ↓binStr, vopsE0, vopsE1, -vops, h1]; try simp (disch := omega) only [w64, wu64])) | (refine need.of (by first | omega | kernel_rfl) ?_) | (refine AW.skip ?_; (try simp (implicitDefEqProofs := false) [↓callI, vopsN, vopsG, ↓step_slice, ↓Am.A.step, ↓binInt, ↓binStr, vopsE0, vopsE1, -vops, h1])) | (refine AW.ret ?_; (try simp (implicitDefEqProofs := false) [↓callI, vopsN, vopsG, ↓step_slice, ↓Am.A.step, ↓binInt, ↓binStr, vopsE0, vopsE1, -vops, h1])) | (refine AW.exit ?_; (try simp (implicitDefEqProofs := false) [↓callI, vopsN, vopsG, ↓step_slice, ↓Am.A.step, ↓binInt, ↓binStr, vopsE0, vopsE1, -vops, h1])))
      refine AW.cond rfl (fun h => ?_) (fun h => ?_)
      · repeat (first | refine AW.seq ?_ | refine AW.block ?_ | (refine AW.reg mix ?_; (simp (implicitDefEqProofs := false) [↓callI, vopsN, vopsG, ↓step_slice, ↓Am.A.step, ↓binInt, ↓binStr, vopsE0, vopsE1, -vops]; try simp (disch := omega) only [w64, wu64])) | (refine need.of (by first | omega | kernel_rfl) ?_) | (refine AW.skip ?_; (try simp (implicitDefEqProofs := false) [↓callI, vopsN, vopsG, ↓step_slice, ↓Am.A.step, ↓binInt, ↓binStr, vopsE0, vopsE1, -vops])) | (refine AW.ret ?_; (try simp (implicitDefEqProofs := false) [↓callI, vopsN, vopsG, ↓step_slice, ↓Am.A.step, ↓binInt, ↓binStr, vopsE0, vopsE1, -vops])) | (refine AW.exit ?_; (try simp (implicitDefEqProofs := false) [↓callI, vopsN, vopsG, ↓step_slice, ↓Am.A.step, ↓binInt, ↓binStr, vopsE0, vopsE1, -vops])))
      · simp [h1] at h
    · simp at h

theorem at_bad2 (k a : Int) (w : Nat) (w2 : w ≤ 10) (x y : Int) (h0 : 0 ≤ x) (h1 : x ≤ (2 ^ w - 1 : Nat)) (hy : (2 ^ w - 1 : Nat) < y) (hc : Eqn Tryz.prog n_chain_Param_Check [.d (parD k a w)] [] (.d (.int .i64 0)) []) : Eqn Tryz.prog n_chain_Param_at [.d (parD k a w), .d (.sl 2 [.int .i64 x, .int .i64 y])] [] (.d (.int .i64 2)) [] := by
  refine Eqn.pure r_chain_Param_at (plain_d _) ?_
  have ht := top_ok k a w w2 hc
  simp only [c_chain_Param_at, parD] at hc ht ⊢
  generalize 2 ^ w - 1 = S at *
  repeat (first | refine AW.seq ?_ | refine AW.block ?_ | (refine AW.reg mix ?_; (simp (implicitDefEqProofs := false) [↓callI, vopsN, vopsG, ↓step_slice, ↓Am.A.step, ↓binInt, ↓binStr, vopsE0, vopsE1, -vops]; try simp (disch := omega) only [w64, wu64])) | (refine need.of (by first | omega | kernel_rfl) ?_) | (refine AW.skip ?_; (try simp (implicitDefEqProofs := false) [↓callI, vopsN, vopsG, ↓step_slice, ↓Am.A.step, ↓binInt, ↓binStr, vopsE0, vopsE1, -vops])) | (refine AW.ret ?_; (try simp (implicitDefEqProofs := false) [↓callI, vopsN, vopsG, ↓step_slice, ↓Am.A.step, ↓binInt, ↓binStr, vopsE0, vopsE1, -vops])) | (refine AW.exit ?_; (try simp (implicitDefEqProofs := false) [↓callI, vopsN, vopsG, ↓step_slice, ↓Am.A.step, ↓binInt, ↓binStr, vopsE0, vopsE1, -vops])))
  refine CallS.pure (hc) (by first | exact plain_d _ | exact plain_tup2 _ _ | exact plain_tup3 _ _ _) rfl (fun _ => rfl) (Subs.refl _) ?_
  (try simp (implicitDefEqProofs := false) [↓callI, vopsN, vopsG, ↓step_slice, ↓Am.A.step, ↓binInt, ↓binStr, vopsE0, vopsE1, -vops]; try simp (disch := omega) only [w64, wu64])
  repeat (first | refine AW.seq ?_ | refine AW.block ?_ | (refine AW.reg mix ?_; (simp (implicitDefEqProofs := false) [↓callI, vopsN, vopsG, ↓step_slice, ↓Am.A.step, ↓binInt, ↓binStr, vopsE0, vopsE1, -vops]; try simp (disch := omega) only [w64, wu64])) | (refine need.of (by first | omega | kernel_rfl) ?_) | (refine AW.skip ?_; (try simp (implicitDefEqProofs := false) [↓callI, vopsN, vopsG, ↓step_slice, ↓Am.A.step, ↓binInt, ↓binStr, vopsE0, vopsE1, -vops])) | (refine AW.ret ?_; (try simp (implicitDefEqProofs := false) [↓callI, vopsN, vopsG, ↓step_slice, ↓Am.A.step, ↓binInt, ↓binStr, vopsE0, vopsE1, -vops])) | (refine AW.exit ?_; (try simp (implicitDefEqProofs := false) [↓callI, vopsN, vopsG, ↓step_slice, ↓Am.A.step, ↓binInt, ↓binStr, vopsE0, vopsE1, -vops])))
  refine AW.cond rfl (fun h => ?_) (fun h => ?_)
  · simp at h
  repeat (first | refine AW.seq ?_ | refine AW.block ?_ | (refine AW.reg mix ?_; (simp (implicitDefEqProofs := false) [↓callI, vopsN, vopsG, ↓step_slice, ↓Am.A.step, ↓binInt, ↓binStr, vopsE0, vopsE1, -vops]; try simp (disch := omega) only [w64, wu64])) | (refine need.of (by first | omega | kernel_rfl) ?_) | (refine AW.skip ?_; (try simp (implicitDefEqProofs := false) [↓callI, vopsN, vopsG, ↓step_slice, ↓Am.A.step, ↓binInt, ↓binStr, vopsE0, vopsE1, -vops])) | (refine AW.ret ?_; (try simp (implicitDefEqProofs := false) [↓callI, vopsN, vopsG, ↓step_slice, ↓Am.A.step, ↓binInt, ↓binStr, vopsE0, vopsE1, -vops])) | (refine AW.exit ?_; (try simp (implicitDefEqProofs := false) [↓callI, vopsN, vopsG, ↓step_slice, ↓Am.A.step, ↓binInt, ↓binStr, vopsE0, vopsE1, -vops])))
  refine AW.loopT (α := Nat) 1 (fun i => [(15, .d (.int .i64 (i : Int)))]) (fun i => []) (fun i => i ≤ 1) (fun i => 2 - i) 0 ?_ ?_ (by omega) ?_ ?_ ?_
  · simp
  · simp
  · simp
  · simp
  rintro i hi
  simp
  have g1 : ¬ x < 0 := by omega
  have g2 : ¬ (S : Int) < x := by omega
  have g3 : ¬ y < 0 := by omega
  have hi' : i = 0 ∨ i = 1 := by omega
  rcases hi' with rfl | rfl
  · repeat (first | refine AW.seq ?_ | refine AW.block ?_ | (refine AW.reg mix ?_; (simp (implicitDefEqProofs := false) [↓callI, vopsN, vopsG, ↓step_slice, ↓Am.A.step, ↓binInt, ↓binStr, vopsE0, vopsE1, -vops]; try simp (disch := omega) only [w64, wu64])) | (refine need.of (by first | omega | kernel_rfl) ?_) | (refine AW.skip ?_; (try simp (implicitDefEqProofs := false) [↓callI, vopsN, vopsG, ↓step_slice, ↓Am.A.step, ↓binInt, ↓binStr, vopsE0, vopsE1, -vops])) | (refine AW.ret ?_; (try simp (implicitDefEqProofs := false) [↓callI, vopsN, vopsG, ↓step_slice, ↓Am.A.step, ↓binInt, ↓binStr, vopsE0, vopsE1, -vops])) | (refine AW.exit ?_; (try simp (implicitDefEqProofs := false) [↓callI, vopsN, vopsG, ↓step_slice, ↓Am.A.step, ↓binInt, ↓binStr, vopsE0, vopsE1, -vops])))
    refine AW.cond rfl (fun h => ?_) (fun h => ?_)
    · repeat (first | refine AW.seq ?_ | refine AW.block ?_ | (refine AW.reg mix ?_; (simp (implicitDefEqProofs := false) [↓callI, vopsN, vopsG, ↓step_slice, ↓Am.A.step, ↓binInt, ↓binStr, vopsE0, vopsE1, -vops, g1, g2]; try simp (disch := omega) only [w64, wu64])) | (refine need.of (by first | omega | kernel_rfl) ?_) | (refine AW.skip ?_; (try simp (implicitDefEqProofs := false) [↓callI, vopsN, vopsG, ↓step_slice, ↓Am.A.step, ↓binInt, ↓binStr, vopsE0, vopsE1, -vops, g1, g2])) | (refine AW.ret ?_; (try simp (implicitDefEqProofs := false) [↓callI, vopsN, vopsG, ↓step_slice, ↓Am.A.step, ↓binInt, ↓binStr, vopsE0, vopsE1, -vops, g1, g2])) | (refine AW.exit ?_; (try simp (implicitDefEqProofs := false) [↓callI, vopsN, vopsG, ↓step_slice, ↓Am.A.step, ↓binInt, ↓binStr, vopsE0, vopsE1, -vops, g1, g2])))
      refine CallS.pure (ht) (by first | exact plain_d _ | exact plain_tup2 _ _ | exact plain_tup3 _ _ _) rfl (fun _ => rfl) (Subs.refl _) ?_
      (try simp (implicitDefEqProofs := false) [↓callI, vopsN, vopsG, ↓step_slice, ↓Am.A.step, ↓binInt, ↓binStr, vopsE0, vopsE1, -vops, g1, g2]; try simp (disch := omega) only [w64, wu64])
      repeat (first | refine AW.seq ?_ | refine AW.block ?_ | (refine AW.reg mix ?_; (simp (implicitDefEqProofs := false) [↓callI, vopsN, vopsG, ↓step_slice, ↓Am.A.step, ↓binInt, ↓binStr, vopsE0, vopsE1, -vops, g1, g2]; try simp (disch := omega) only [w64, wu64])) | (refine need.of (by first | omega | kernel_rfl) ?_) | (refine AW.skip ?_; (try simp (implicitDefEqProofs := false) [↓callI, vopsN, vopsG, ↓step_slice, ↓Am.A.step, ↓binInt, ↓binStr, vopsE0, vopsE1, -vops, g1, g2])) | (refine AW.ret ?_; (try simp (implicitDefEqProofs := false) [↓callI, vopsN, vopsG, ↓step_slice, ↓Am.A.step, ↓binInt, ↓binStr, vopsE0, vopsE1, -vops, g1, g2])) | (refine AW.exit ?_; (try simp (implicitDefEqProofs := false) [↓callI, vopsN, vopsG, ↓step_slice, ↓Am.A.step, ↓binInt, ↓binStr, vopsE0, vopsE1, -vops, g1, g2])))
      refine AW.cond rfl (fun h => ?_) (fun h => ?_)
      · simp [g1, g2] at h
      have ew : IntKind.i64.wrap 1 = 1 := w64 (by omega) (by omega)
      repeat (first | refine AW.seq ?_ | refine AW.block ?_ | (refine AW.reg mix ?_; (simp (implicitDefEqProofs := false) [↓callI, vopsN, vopsG, ↓step_slice, ↓Am.A.step, ↓binInt, ↓binStr, vopsE0, vopsE1, -vops, ew]; try simp (disch := omega) only [w64, wu64])) | (refine need.of (by first | omega | kernel_rfl) ?_) | (refine AW.skip ?_; (try simp (implicitDefEqProofs := false) [↓callI, vopsN, vopsG, ↓step_slice, ↓Am.A.step, ↓binInt, ↓binStr, vopsE0, vopsE1, -vops, ew])) | (refine AW.ret ?_; (try simp (implicitDefEqProofs := false) [↓callI, vopsN, vopsG, ↓step_slice, ↓Am.A.step, ↓binInt, ↓binStr, vopsE0, vopsE1, -vops, ew])) | (refine AW.exit ?_; (try simp (implicitDefEqProofs := false) [↓callI, vopsN, vopsG, ↓step_slice, ↓Am.A.step, ↓binInt, ↓binStr, vopsE0, vopsE1, -vops, ew])))
      exact ⟨1, by omega, by omega, by simp⟩
    · simp at h
  · repeat (first | refine AW.seq ?_ | refine AW.block ?_ | (refine AW.reg mix ?_; (simp (implicitDefEqProofs := false) [↓callI, vopsN, vopsG, ↓step_slice, ↓Am.A.step, ↓binInt, ↓binStr, vopsE0, vopsE1, -vops]; try simp (disch := omega) only [w64, wu64])) | (refine need.of (by first | omega | kernel_rfl) ?_) | (refine AW.skip ?_; (try simp (implicitDefEqProofs := false) [↓callI, vopsN, vopsG, ↓step_slice, ↓Am.A.step, ↓binInt, ↓binStr, vopsE0, vopsE1, -vops])) | (refine AW.ret ?_; (try simp (implicitDefEqProofs := false) [↓callI, vopsN, vopsG, ↓step_slice, ↓Am.A.step, ↓binInt, ↓binStr, vopsE0, vopsE1, -vops])) | (refine AW.exit ?_; (try simp (implicitDefEqProofs := false) [↓callI, vopsN, vopsG, ↓step_slice, ↓Am.A.step, ↓binInt, ↓binStr, vopsE0, vopsE1, -vops])))
    refine AW.cond rfl (fun h => ?_) (fun h => ?_)
    · repeat (first | refine AW.seq ?_ | refine AW.block ?_ | (refine AW.reg mix ?_; (simp (implicitDefEqProofs := false) [↓callI, vopsN, vopsG, ↓step_slice, ↓Am.A.step, ↓binInt, ↓binStr, vopsE0, vopsE1, -vops, g3, hy]; try simp (disch := omega) only [w64, wu64])) | (refine need.of (by first | omega | kernel_rfl) ?_) | (refine AW.skip ?_; (try simp (implicitDefEqProofs := false) [↓callI, vopsN, vopsG, ↓step_slice, ↓Am.A.step, ↓binInt, ↓binStr, vopsE0, vopsE1, -vops, g3, hy])) | (refine AW.ret ?_; (try simp (implicitDefEqProofs := false) [↓callI, vopsN, vopsG, ↓step_slice, ↓Am.A.step, ↓binInt, ↓binStr, vopsE0, vopsE1, -vops, g3, hy])) | (refine AW.exit ?_; (try simp (implicitDefEqProofs := false) [↓callI, vopsN, vopsG, ↓step_slice, ↓Am.A.step, ↓binInt, ↓binStr, vopsE0, vopsE1, -vops, g3, hy])))
      refine CallS.pure (ht) (by first | exact plain_d _ | exact plain_tup2 _ _ | exact plain_tup3 _ _ _) rfl (fun _ => rfl) (Subs.refl _) ?_
      (try simp (implicitDefEqProofs := false) [↓callI, vopsN, vopsG, ↓step_slice, ↓Am.A.step, ↓binInt, ↓binStr, vopsE0, vopsE1, -vops, g3, hy]; try simp (disch := omega) only [w64, wu64])
      repeat (first | refine AW.seq ?_ | refine AW.block ?_ | (refine AW.reg mix ?_; (simp (implicitDefEqProofs := false) [↓callI, vopsN, vopsG, ↓step_slice, ↓Am.A.step, ↓binInt, ↓binStr, vopsE0, vopsE1, -vops, g3, hy]; try simp (disch := omega) only [w64, wu64])) | (refine need.of (by first | omega | kernel_rfl) ?_) | (refine AW.skip ?_; (try simp (implicitDefEqProofs := false) [↓callI, vopsN, vopsG, ↓step_slice, ↓Am.A.step, ↓binInt, ↓binStr, vopsE0, vopsE1, -vops, g3, hy])) | (refine AW.ret ?_; (try simp (implicitDefEqProofs := false) [↓callI, vopsN, vopsG, ↓step_slice, ↓Am.A.step, ↓binInt, ↓binStr, vopsE0, vopsE1, -vops, g3, hy])) | (refine AW.exit ?_; (try simp (implicitDefEqProofs := false) [↓callI, vopsN, vopsG, ↓step_slice, ↓Am.A.step, ↓binInt, ↓binStr, vopsE0, vopsE1, -vops, g3, hy])))
      refine AW.cond rfl (fun hh => ?_) (fun hh => ?_)
      · repeat (first | refine AW.seq ?_ | refine AW.block ?_ | (refine AW.reg mix ?_; (simp (implicitDefEqProofs := false) [↓callI, vopsN, vopsG, ↓step_slice, ↓Am.A.step, ↓binInt, ↓binStr, vopsE0, vopsE1, -vops]; try simp (disch := omega) only [w64, wu64])) | (refine need.of (by first | omega | kernel_rfl) ?_) | (refine AW.skip ?_; (try simp (implicitDefEqProofs := false) [↓callI, vopsN, vopsG, ↓step_slice, ↓Am.A.step, ↓binInt, ↓binStr, vopsE0, vopsE1, -vops])) | (refine AW.ret ?_; (try simp (implicitDefEqProofs := false) [↓callI, vopsN, vopsG, ↓step_slice, ↓Am.A.step, ↓binInt, ↓binStr, vopsE0, vopsE1, -vops])) | (refine AW.exit ?_; (try simp (implicitDefEqProofs := false) [↓callI, vopsN, vopsG, ↓step_slice, ↓Am.A.step, ↓binInt, ↓binStr, vopsE0, vopsE1, -vops])))
      · simp [hy] at hh
    · simp at h

theorem merge_bad {k a w : Nat} (h : GoodS k a w) (cs : List Bool) (p : Nat) (dd : Bool) (x y : Int) (f g : Bool) (h0 : 0 ≤ x) (h1 : x ≤ (2 ^ w - 1 : Nat)) (h2 : (2 ^ w - 1 : Nat) < y) :
    Eqn Tryz.prog n_chain_Param_Merge [.d (parD k a w), .p 0 0, .d (.agg [.int .i64 x, .bool f]), .d (.agg [.int .i64 y, .bool g])] [tapeO cs p dd] (.tup [.d (.agg [.int .i64 x, .bool f]), .d (.int .i64 2)]) [tapeO cs p dd] := by
  refine Eqn.obj1 r_chain_Param_Merge (plain_tup2 _ _) ⟨rfl, fun _ => rfl⟩ ?_
  have hat := at_bad2 k a w (by have := h.2; omega) x y h0 h1 h2 (good_check h)
  simp only [c_chain_Param_Merge, parD] at hat ⊢
  repeat (first | refine AW.seq ?_ | refine AW.block ?_ | (refine AW.reg mix ?_; (simp (implicitDefEqProofs := false) [↓callI, vopsN, vopsG, ↓step_slice, ↓Am.A.step, ↓binInt, ↓binStr, vopsE0, vopsE1, -vops, -Bool.exists_bool]; try simp (disch := omega) only [w64, wu64])) | (refine need.of (by first | omega | kernel_rfl) ?_) | (refine AW.skip ?_; (try simp (implicitDefEqProofs := false) [↓callI, vopsN, vopsG, ↓step_slice, ↓Am.A.step, ↓binInt, ↓binStr, vopsE0, vopsE1, -vops, -Bool.exists_bool])) | (refine AW.ret ?_; (try simp (implicitDefEqProofs := false) [↓callI, vopsN, vopsG, ↓step_slice, ↓Am.A.step, ↓binInt, ↓binStr, vopsE0, vopsE1, -vops, -Bool.exists_bool])) | (refine AW.exit ?_; (try simp (implicitDefEqProofs := false) [↓callI, vopsN, vopsG, ↓step_slice, ↓Am.A.step, ↓binInt, ↓binStr, vopsE0, vopsE1, -vops, -Bool.exists_bool])))
  refine CallS.pureF 6 1 ⟨3, _⟩ [.int .i64 x, .int .i64 y] (hat) (by first | exact plain_d _ | exact plain_tup2 _ _ | exact plain_tup3 _ _ _) rfl (fun _ => rfl) (by rfl) (by simp) (Subs.of ?_) ?_
  focus first | rfl | (simp [-Bool.exists_bool]; done) | skip
  rotate_left
  (try simp (implicitDefEqProofs := false) [↓callI, vopsN, vopsG, ↓step_slice, ↓Am.A.step, ↓binInt, ↓binStr, vopsE0, vopsE1, -vops, -Bool.exists_bool]; try simp (disch := omega) only [w64, wu64])
  repeat (first | refine AW.seq ?_ | refine AW.block ?_ | (refine AW.reg mix ?_; (simp (implicitDefEqProofs := false) [↓callI, vopsN, vopsG, ↓step_slice, ↓Am.A.step, ↓binInt, ↓binStr, vopsE0, vopsE1, -vops, -Bool.exists_bool]; try simp (disch := omega) only [w64, wu64])) | (refine need.of (by first | omega | kernel_rfl) ?_) | (refine AW.skip ?_; (try simp (implicitDefEqProofs := false) [↓callI, vopsN, vopsG, ↓step_slice, ↓Am.A.step, ↓binInt, ↓binStr, vopsE0, vopsE1, -vops, -Bool.exists_bool])) | (refine AW.ret ?_; (try simp (implicitDefEqProofs := false) [↓callI, vopsN, vopsG, ↓step_slice, ↓Am.A.step, ↓binInt, ↓binStr, vopsE0, vopsE1, -vops, -Bool.exists_bool])) | (refine AW.exit ?_; (try simp (implicitDefEqProofs := false) [↓callI, vopsN, vopsG, ↓step_slice, ↓Am.A.step, ↓binInt, ↓binStr, vopsE0, vopsE1, -vops, -Bool.exists_bool])))
  refine AW.cond rfl (fun h => ?_) (fun h => ?_)
  · repeat (first | refine AW.seq ?_ | refine AW.block ?_ | (refine AW.reg mix ?_; (simp (implicitDefEqProofs := false) [↓callI, vopsN, vopsG, ↓step_slice, ↓Am.A.step, ↓binInt, ↓binStr, vopsE0, vopsE1, -vops, -Bool.exists_bool]; try simp (disch := omega) only [w64, wu64])) | (refine need.of (by first | omega | kernel_rfl) ?_) | (refine AW.skip ?_; (try simp (implicitDefEqProofs := false) [↓callI, vopsN, vopsG, ↓step_slice, ↓Am.A.step, ↓binInt, ↓binStr, vopsE0, vopsE1, -vops, -Bool.exists_bool])) | (refine AW.ret ?_; (try simp (implicitDefEqProofs := false) [↓callI, vopsN, vopsG, ↓step_slice, ↓Am.A.step, ↓binInt, ↓binStr, vopsE0, vopsE1, -vops, -Bool.exists_bool])) | (refine AW.exit ?_; (try simp (implicitDefEqProofs := false) [↓callI, vopsN, vopsG, ↓step_slice, ↓Am.A.step, ↓binInt, ↓binStr, vopsE0, vopsE1, -vops, -Bool.exists_bool])))
  · simp at h

theorem add_bad {k a w : Nat} (h : GoodS k a w) (cs : List Bool) (p : Nat) (dd : Bool) (x n : Int) (f : Bool) (h2 : x < 0 ∨ (2 ^ w - 1 : Nat) < x) :
    Eqn Tryz.prog n_chain_Param_Add [.d (parD k a w), .p 0 0, .d (.agg [.int .i64 x, .bool f]), .d (.int .i64 n)] [tapeO cs p dd] (.tup [.d (.agg [.int .i64 x, .bool f]), .d (.int .i64 2)]) [tapeO cs p dd] := by
  refine Eqn.obj1 r_chain_Param_Add (plain_tup2 _ _) ⟨rfl, fun _ => rfl⟩ ?_
  have hat := at_bad1 k a w (by have := h.2; omega) x h2 (good_check h)
  simp only [c_chain_Param_Add, parD] at hat ⊢
  repeat (first | refine AW.seq ?_ | refine AW.block ?_ | (refine AW.reg mix ?_; (simp (implicitDefEqProofs := false) [↓callI, vopsN, vopsG, ↓step_slice, ↓Am.A.step, ↓binInt, ↓binStr, vopsE0, vopsE1, -vops, -Bool.exists_bool]; try simp (disch := omega) only [w64, wu64])) | (refine need.of (by first | omega | kernel_rfl) ?_) | (refine AW.skip ?_; (try simp (implicitDefEqProofs := false) [↓callI, vopsN, vopsG, ↓step_slice, ↓Am.A.step, ↓binInt, ↓binStr, vopsE0, vopsE1, -vops, -Bool.exists_bool])) | (refine AW.ret ?_; (try simp (implicitDefEqProofs := false) [↓callI, vopsN, vopsG, ↓step_slice, ↓Am.A.step, ↓binInt, ↓binStr, vopsE0, vopsE1, -vops, -Bool.exists_bool])) | (refine AW.exit ?_; (try simp (implicitDefEqProofs := false) [↓callI, vopsN, vopsG, ↓step_slice, ↓Am.A.step, ↓binInt, ↓binStr, vopsE0, vopsE1, -vops, -Bool.exists_bool])))
  refine CallS.pureF 5 1 ⟨3, _⟩ [.int .i64 x] (hat) (by first | exact plain_d _ | exact plain_tup2 _ _ | exact plain_tup3 _ _ _) rfl (fun _ => rfl) (by rfl) (by simp) (Subs.of ?_) ?_
  focus first | rfl | (simp [-Bool.exists_bool]; done) | skip
  rotate_left
  (try simp (implicitDefEqProofs := false) [↓callI, vopsN, vopsG, ↓step_slice, ↓Am.A.step, ↓binInt, ↓binStr, vopsE0, vopsE1, -vops, -Bool.exists_bool]; try simp (disch := omega) only [w64, wu64])
  repeat (first | refine AW.seq ?_ | refine AW.block ?_ | (refine AW.reg mix ?_; (simp (implicitDefEqProofs := false) [↓callI, vopsN, vopsG, ↓step_slice, ↓Am.A.step, ↓binInt, ↓binStr, vopsE0, vopsE1, -vops, -Bool.exists_bool]; try simp (disch := omega) only [w64, wu64])) | (refine need.of (by first | omega | kernel_rfl) ?_) | (refine AW.skip ?_; (try simp (implicitDefEqProofs := false) [↓callI, vopsN, vopsG, ↓step_slice, ↓Am.A.step, ↓binInt, ↓binStr, vopsE0, vopsE1, -vops, -Bool.exists_bool])) | (refine AW.ret ?_; (try simp (implicitDefEqProofs := false) [↓callI, vopsN, vopsG, ↓step_slice, ↓Am.A.step, ↓binInt, ↓binStr, vopsE0, vopsE1, -vops, -Bool.exists_bool])) | (refine AW.exit ?_; (try simp (implicitDefEqProofs := false) [↓callI, vopsN, vopsG, ↓step_slice, ↓Am.A.step, ↓binInt, ↓binStr, vopsE0, vopsE1, -vops, -Bool.exists_bool])))
  refine AW.cond rfl (fun h => ?_) (fun h => ?_)
  · repeat (first | refine AW.seq ?_ | refine AW.block ?_ | (refine AW.reg mix ?_; (simp (implicitDefEqProofs := false) [↓callI, vopsN, vopsG, ↓step_slice, ↓Am.A.step, ↓binInt, ↓binStr, vopsE0, vopsE1, -vops, -Bool.exists_bool]; try simp (disch := omega) only [w64, wu64])) | (refine need.of (by first | omega | kernel_rfl) ?_) | (refine AW.skip ?_; (try simp (implicitDefEqProofs := false) [↓callI, vopsN, vopsG, ↓step_slice, ↓Am.A.step, ↓binInt, ↓binStr, vopsE0, vopsE1, -vops, -Bool.exists_bool])) | (refine AW.ret ?_; (try simp (implicitDefEqProofs := false) [↓callI, vopsN, vopsG, ↓step_slice, ↓Am.A.step, ↓binInt, ↓binStr, vopsE0, vopsE1, -vops, -Bool.exists_bool])) | (refine AW.exit ?_; (try simp (implicitDefEqProofs := false) [↓callI, vopsN, vopsG, ↓step_slice, ↓Am.A.step, ↓binInt, ↓binStr, vopsE0, vopsE1, -vops, -Bool.exists_bool])))
  · simp at h

theorem add_many {k a w : Nat} (h : GoodS k a w) (cs : List Bool) (p : Nat) (dd : Bool) (x n : Int) (f : Bool) (h0 : 0 ≤ x) (h1 : x ≤ (2 ^ w - 1 : Nat)) (hn : 1048576 < n) :
    Eqn Tryz.prog n_chain_Param_Add [.d (parD k a w), .p 0 0, .d (.agg [.int .i64 x, .bool f]), .d (.int .i64 n)] [tapeO cs p dd] (.tup [.d (.agg [.int .i64 x, .bool f]), .d (.int .i64 2)]) [tapeO cs p dd] := by
  refine Eqn.obj1 r_chain_Param_Add (plain_tup2 _ _) ⟨rfl, fun _ => rfl⟩ ?_
  have hat := at_ok1 k a w (by have := h.2; omega) x h0 h1 (good_check h)
  simp only [c_chain_Param_Add, parD] at hat ⊢
  repeat (first | refine AW.seq ?_ | refine AW.block ?_ | (refine AW.reg mix ?_; (simp (implicitDefEqProofs := false) [↓callI, vopsN, vopsG, ↓step_slice, ↓Am.A.step, ↓binInt, ↓binStr, vopsE0, vopsE1, -vops, -Bool.exists_bool]; try simp (disch := omega) only [w64, wu64])) | (refine need.of (by first | omega | kernel_rfl) ?_) | (refine AW.skip ?_; (try simp (implicitDefEqProofs := false) [↓callI, vopsN, vopsG, ↓step_slice, ↓Am.A.step, ↓binInt, ↓binStr, vopsE0, vopsE1, -vops, -Bool.exists_bool])) | (refine AW.ret ?_; (try simp (implicitDefEqProofs := false) [↓callI, vopsN, vopsG, ↓step_slice, ↓Am.A.step, ↓binInt, ↓binStr, vopsE0, vopsE1, -vops, -Bool.exists_bool])) | (refine AW.exit ?_; (try simp (implicitDefEqProofs := false) [↓callI, vopsN, vopsG, ↓step_slice, ↓Am.A.step, ↓binInt, ↓binStr, vopsE0, vopsE1, -vops, -Bool.exists_bool])))
  refine CallS.pureF 5 1 ⟨3, _⟩ [.int .i64 x] (hat) (by first | exact plain_d _ | exact plain_tup2 _ _ | exact plain_tup3 _ _ _) rfl (fun _ => rfl) (by rfl) (by simp) (Subs.of ?_) ?_
  focus first | rfl | (simp [-Bool.exists_bool]; done) | skip
  rotate_left
  (try simp (implicitDefEqProofs := false) [↓callI, vopsN, vopsG, ↓step_slice, ↓Am.A.step, ↓binInt, ↓binStr, vopsE0, vopsE1, -vops, -Bool.exists_bool]; try simp (disch := omega) only [w64, wu64])
  repeat (first | refine AW.seq ?_ | refine AW.block ?_ | (refine AW.reg mix ?_; (simp (implicitDefEqProofs := false) [↓callI, vopsN, vopsG, ↓step_slice, ↓Am.A.step, ↓binInt, ↓binStr, vopsE0, vopsE1, -vops, -Bool.exists_bool]; try simp (disch := omega) only [w64, wu64])) | (refine need.of (by first | omega | kernel_rfl) ?_) | (refine AW.skip ?_; (try simp (implicitDefEqProofs := false) [↓callI, vopsN, vopsG, ↓step_slice, ↓Am.A.step, ↓binInt, ↓binStr, vopsE0, vopsE1, -vops, -Bool.exists_bool])) | (refine AW.ret ?_; (try simp (implicitDefEqProofs := false) [↓callI, vopsN, vopsG, ↓step_slice, ↓Am.A.step, ↓binInt, ↓binStr, vopsE0, vopsE1, -vops, -Bool.exists_bool])) | (refine AW.exit ?_; (try simp (implicitDefEqProofs := false) [↓callI, vopsN, vopsG, ↓step_slice, ↓Am.A.step, ↓binInt, ↓binStr, vopsE0, vopsE1, -vops, -Bool.exists_bool])))
  refine AW.cond rfl (fun h => ?_) (fun h => ?_)
  · simp at h
  repeat (first | refine AW.seq ?_ | refine AW.block ?_ | (refine AW.reg mix ?_; (simp (implicitDefEqProofs := false) [↓callI, vopsN, vopsG, ↓step_slice, ↓Am.A.step, ↓binInt, ↓binStr, vopsE0, vopsE1, -vops, hn, -Bool.exists_bool]; try simp (disch := omega) only [w64, wu64])) | (refine need.of (by first | omega | kernel_rfl) ?_) | (refine AW.skip ?_; (try simp (implicitDefEqProofs := false) [↓callI, vopsN, vopsG, ↓step_slice, ↓Am.A.step, ↓binInt, ↓binStr, vopsE0, vopsE1, -vops, hn, -Bool.exists_bool])) | (refine AW.ret ?_; (try simp (implicitDefEqProofs := false) [↓callI, vopsN, vopsG, ↓step_slice, ↓Am.A.step, ↓binInt, ↓binStr, vopsE0, vopsE1, -vops, hn, -Bool.exists_bool])) | (refine AW.exit ?_; (try simp (implicitDefEqProofs := false) [↓callI, vopsN, vopsG, ↓step_slice, ↓Am.A.step, ↓binInt, ↓binStr, vopsE0, vopsE1, -vops, hn, -Bool.exists_bool])))
  refine AW.cond rfl (fun h => ?_) (fun h => ?_)
  · repeat (first | refine AW.seq ?_ | refine AW.block ?_ | (refine AW.reg mix ?_; (simp (implicitDefEqProofs := false) [↓callI, vopsN, vopsG, ↓step_slice, ↓Am.A.step, ↓binInt, ↓binStr, vopsE0, vopsE1, -vops, -Bool.exists_bool]; try simp (disch := omega) only [w64, wu64])) | (refine need.of (by first | omega | kernel_rfl) ?_) | (refine AW.skip ?_; (try simp (implicitDefEqProofs := false) [↓callI, vopsN, vopsG, ↓step_slice, ↓Am.A.step, ↓binInt, ↓binStr, vopsE0, vopsE1, -vops, -Bool.exists_bool])) | (refine AW.ret ?_; (try simp (implicitDefEqProofs := false) [↓callI, vopsN, vopsG, ↓step_slice, ↓Am.A.step, ↓binInt, ↓binStr, vopsE0, vopsE1, -vops, -Bool.exists_bool])) | (refine AW.exit ?_; (try simp (implicitDefEqProofs := false) [↓callI, vopsN, vopsG, ↓step_slice, ↓Am.A.step, ↓binInt, ↓binStr, vopsE0, vopsE1, -vops, -Bool.exists_bool])))
  · simp [hn] at h

theorem merge_good {k a w : Nat} (h : GoodS k a w) (cs : List Bool) (hcs : cs.length ≤ 4000000) (x : Nat) (hx : x ≤ 2 ^ w - 1) (f : Bool) (n : Nat) (hn : n ≤ 2 ^ w - 1) (fo : Bool) (p : Nat) (dd : Bool) (hp : p ≤ cs.length) (S : Int × Nat × Bool × Nat × Bool) (hS : S = mergeL (agOf cs k a) (2 ^ w - 1) n 0 x f p dd) :
    Eqn Tryz.prog n_chain_Param_Merge [.d (parD k a w), .p 0 0, .d (.agg [.int .i64 x, .bool f]), .d (.agg [.int .i64 n, .bool fo])] [tapeO cs p dd] (.tup [.d (.agg [.int .i64 (if S.1 = 0 then S.2.1 else x : Nat), .bool (if S.1 = 0 then S.2.2.1 || fo else f)]), .d (.int .i64 S.1)]) [tapeO cs S.2.2.2.1 S.2.2.2.2] := by
  obtain ⟨ti, d, g, h1, h2⟩ := good_again h cs hcs
  exact merge_start cs k a w (by have := h.2; omega) ti d g _ h1 h2 (good_check h) x hx f n hn fo p dd hp S hS

theorem agOf_live (cs : List Bool) (k a x r p : Nat) : Live p (agOf cs k a x r p false) := by
  unfold agOf
  split
  · exact powerR_live _ _ _ _ _
  · split
    · exact halfR_live _ _ _
    · exact halfR_live _ _ _
theorem agOf_same (cs : List Bool) (k a x p : Nat) (dd : Bool) : (agOf cs k a x x p dd).1 = true := by
  unfold agOf
  split
  · rw [Nat.sub_self]; rfl
  · split
    · rw [Nat.sub_self]; rfl
    · rw [Nat.sub_self]; rfl
theorem agOf_le {cs : List Bool} {k a x r p : Nat} {dd : Bool} (hp : p ≤ cs.length) : (agOf cs k a x r p dd).2.2.1 ≤ cs.length := by
  unfold agOf
  split
  · exact powerR_le _ _ _ hp
  · split
    · exact halfR_le _ _ _ hp
    · exact halfR_le _ _ _ hp
end
end Go.Proofs.YtakjegcjeffmgaaGreat.Am
