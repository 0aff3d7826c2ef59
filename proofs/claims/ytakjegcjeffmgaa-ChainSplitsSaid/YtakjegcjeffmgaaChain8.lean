import Derived.Test.YtakjegcjeffmgaaChain7
namespace Go.Proofs.Ytakjegcjeffmgaa.Am
open Go.RowKit
set_option maxRecDepth 100000
set_option linter.unusedSimpArgs false
set_option linter.unusedVariables false

theorem halfR_le {cs : List Bool} : ∀ (k p : Nat) (dd : Bool), p ≤ cs.length → (halfR cs k p dd).2.2.1 ≤ cs.length
  | 0, p, dd, h => h
  | k + 1, p, dd, h => by
    rw [halfR]
    split
    · exact halfR_le k _ _ (flipP_le h)
    · exact flipP_le h
theorem powerR_le {cs : List Bool} {a q : Nat} : ∀ (k p : Nat) (dd : Bool), p ≤ cs.length → (powerR cs a q k p dd).2.2.1 ≤ cs.length
  | 0, p, dd, h => h
  | k + 1, p, dd, h => by
    rw [powerR]
    split
    · exact powerR_le k _ _ (ratioA_le h)
    · exact ratioA_le h
theorem stepM_le {cs : List Bool} {a k : Int} {p : Nat} {dd : Bool} (h : p ≤ cs.length) : (stepM cs a k p dd).2.2.1 ≤ cs.length := by
  unfold stepM; split
  · exact powerR_le _ _ _ h
  · exact h
theorem stepG_le {cs : List Bool} {a k : Int} {p : Nat} {dd : Bool} (h : p ≤ cs.length) : (stepG cs a k p dd).2.2.1 ≤ cs.length := by
  unfold stepG; split
  · exact halfR_le _ _ _ h
  · exact h
theorem stepYG_le {cs : List Bool} {a k : Int} {p : Nat} {dd : Bool} (h : p ≤ cs.length) : (stepYG cs a k p dd).2.2.1 ≤ cs.length := by
  unfold stepYG; split
  · exact halfR_le _ _ _ h
  · exact h

/-- what the kinds do -/
def stOf (cs : List Bool) (k a : Int) : StepT := fun x p dd => if k = 1 then stepM cs a x p dd else if k = 2 then stepG cs a x p dd else stepYG cs a x p dd
/-- a parameter of a few places that may be -/
def GoodS (k a w : Nat) : Prop := (k = 1 ∧ 1 ≤ a ∧ a ≤ 4 ∨ k = 2 ∧ a ≤ 1 ∨ k = 3 ∧ 1 ≤ a ∧ a ≤ 2) ∧ 1 ≤ w ∧ w ≤ 4

theorem good_check {k a w : Nat} (h : GoodS k a w) : Eqn Try.prog n_chain_Param_Check [.d (parD k a w)] [] (.d (.int .i64 0)) [] := by
  obtain ⟨h, h1, h2⟩ := h
  rcases h with ⟨rfl, h3, h4⟩ | ⟨rfl, h3⟩ | ⟨rfl, h3, h4⟩
  · refine check_m a w (by omega) (by omega) h1 (by omega) ?_
    have ha : a = 1 ∨ a = 2 ∨ a = 3 ∨ a = 4 := by omega
    have hw : w = 1 ∨ w = 2 ∨ w = 3 ∨ w = 4 := by omega
    rcases ha with rfl | rfl | rfl | rfl <;> rcases hw with rfl | rfl | rfl | rfl <;> decide
  · exact check_f a w (by omega) h1 (by omega)
  · exact check_y a w (by omega) (by omega) h1 (by omega)

theorem good_step {k a w : Nat} (h : GoodS k a w) (cs : List Bool) (hn : cs.length ≤ 4000000) : ∃ ti d g, StepOf cs ti d g (stOf cs k a) ∧ kindD k a = .ifc ti d := by
  obtain ⟨h, -⟩ := h
  rcases h with ⟨rfl, -⟩ | ⟨rfl, -⟩ | ⟨rfl, -⟩
  · exact ⟨_, _, _, ⟨meth_mstep, fun x p dd hp => cmstep_ok cs a x p dd hp hn, fun x p dd hp => stepM_le hp⟩, rfl⟩
  · exact ⟨_, _, _, ⟨meth_fstep, fun x p dd hp => cfstep_ok cs a x p dd hp hn, fun x p dd hp => stepG_le hp⟩, rfl⟩
  · exact ⟨_, _, _, ⟨meth_ystep, fun x p dd hp => cystep_ok cs a x p dd hp hn, fun x p dd hp => stepYG_le hp⟩, rfl⟩

theorem add_good {k a w : Nat} (h : GoodS k a w) (cs : List Bool) (hcs : cs.length ≤ 4000000) (x : Nat) (hx : x ≤ 2 ^ w - 1) (f : Bool) (n : Nat) (hn : n ≤ 1048576) (p : Nat) (dd : Bool) (hp : p ≤ cs.length) (S : Int × Nat × Bool × Nat × Bool) (hS : S = addL (stOf cs k a) (2 ^ w - 1) n x f p dd) :
    Eqn Try.prog n_chain_Param_Add [.d (parD k a w), .p 0 0, .d (.agg [.int .i64 x, .bool f]), .d (.int .i64 n)] [tapeO cs p dd] (.tup [.d (.agg [.int .i64 (if S.1 = 0 then S.2.1 else x : Nat), .bool (if S.1 = 0 then S.2.2.1 else f)]), .d (.int .i64 S.1)]) [tapeO cs S.2.2.2.1 S.2.2.2.2] := by
  obtain ⟨ti, d, g, h1, h2⟩ := good_step h cs hcs
  exact add_start cs k a w (by have := h.2; omega) ti d g _ h1 h2 (good_check h) x hx f n hn p dd hp S hS

theorem tmod_b (k m : Int) (hm : 0 < m) : -m < k.tmod m ∧ k.tmod m < m := by
  refine ⟨?_, Int.tmod_lt_of_pos _ hm⟩
  rcases (by omega : k < 0 ∨ 0 ≤ k) with h | h
  · have := Int.tmod_lt_of_pos (-k) hm
    rw [Int.neg_tmod] at this
    omega
  · have := Int.tmod_nonneg m h
    omega
theorem tmod_r (k m : Int) (hm : 0 < m) (hm2 : m ≤ 4611686018427387904) : IntKind.i64.wrap (k.tmod m + m) = k.tmod m + m ∧ ∃ r : Nat, (k.tmod m + m).tmod m = r ∧ r < m ∧ IntKind.i64.wrap (1 + (r : Int)) = ((1 + r : Nat) : Int) := by
  have h := tmod_b k m hm
  have h0 : 0 ≤ k.tmod m + m := by omega
  refine ⟨w64 (by omega) (by omega), ?_⟩
  have h1 := Int.tmod_nonneg m h0
  have h2 := Int.tmod_lt_of_pos (k.tmod m + m) hm
  obtain ⟨r, hr⟩ : ∃ r : Nat, (k.tmod m + m).tmod m = r := ⟨((k.tmod m + m).tmod m).toNat, by omega⟩
  exact ⟨r, hr, by omega, by rw [w64 (by omega) (by omega)]; omega⟩
theorem and_b (k : Int) (m : Nat) (hm : m ≤ 4611686018427387904) : ∃ n : Nat, bits BinOp.and IntKind.i64 k (m : Int) = n ∧ n ≤ m ∧ IntKind.i64.wrap (1 + (n : Int)) = ((1 + n : Nat) : Int) := by
  refine ⟨(BitVec.ofInt 64 k).toNat &&& m, ?_, Nat.and_le_right, ?_⟩
  · have hm' : m % 2 ^ 64 = m := Nat.mod_eq_of_lt (by omega)
    have hle : (BitVec.ofInt 64 k).toNat &&& m ≤ m := Nat.and_le_right
    show IntKind.i64.wrap (((BitVec.ofInt 64 k) &&& (BitVec.ofInt 64 (m : Int))).toNat : Int) = _
    rw [BitVec.toNat_and, BitVec.ofInt_natCast, BitVec.toNat_ofNat, hm']
    generalize (BitVec.ofInt 64 k).toNat &&& m = n at *
    exact w64 (by omega) (by omega)
  · have hle : (BitVec.ofInt 64 k).toNat &&& m ≤ m := Nat.and_le_right
    generalize (BitVec.ofInt 64 k).toNat &&& m = n at *
    rw [w64 (by omega) (by omega)]; omega

theorem csmall_ok (k a w : Int) : ∃ K A W : Nat, GoodS K A W ∧ Eqn Try.prog n_Tlaw15_small [.d (parD k a w), .d (.int .i64 4)] [] (.d (parD K A W)) [] := by
  obtain ⟨e1, K, e2, hK, e3⟩ := tmod_r k 3 (by omega) (by omega)
  obtain ⟨e4, W, e5, hW, e6⟩ := tmod_r w 4 (by omega) (by omega)
  obtain ⟨A1, a1, a2, a3⟩ := and_b a 3 (by omega)
  obtain ⟨A2, a4, a5, a6⟩ := and_b a 1 (by omega)
  replace a1 : bits BinOp.and IntKind.i64 a 3 = A1 := a1
  replace a4 : bits BinOp.and IntKind.i64 a 1 = A2 := a4
  have main : ∀ A : Nat, (K = 0 ∧ A = 1 + A1 ∨ K = 1 ∧ A = A2 ∨ K = 2 ∧ A = 1 + A2) → Eqn Try.prog n_Tlaw15_small [.d (parD k a w), .d (.int .i64 4)] [] (.d (parD (1 + K : Nat) A (1 + W : Nat))) [] := by
    intro A hA
    refine Eqn.pure r_Tlaw15_small (plain_d _) ?_
    simp only [c_Tlaw15_small, parD]
    rcases hA with ⟨rfl, rfl⟩ | ⟨rfl, rfl⟩ | ⟨rfl, rfl⟩
    · repeat (first | refine AW.seq ?_ | refine AW.block ?_ | (refine AW.reg mix ?_; (simp (implicitDefEqProofs := false) [↓callI, vopsN, vopsG, ↓step_slice, ↓Am.A.step, ↓binInt, ↓binStr, vopsE0, vopsE1, -vops, e1, e2, e3, e4, e5, e6]; try simp (disch := omega) only [w64, wu64])) | (refine need.of (by first | omega | kernel_rfl) ?_) | (refine AW.skip ?_; (try simp (implicitDefEqProofs := false) [↓callI, vopsN, vopsG, ↓step_slice, ↓Am.A.step, ↓binInt, ↓binStr, vopsE0, vopsE1, -vops, e1, e2, e3, e4, e5, e6])) | (refine AW.ret ?_; (try simp (implicitDefEqProofs := false) [↓callI, vopsN, vopsG, ↓step_slice, ↓Am.A.step, ↓binInt, ↓binStr, vopsE0, vopsE1, -vops, e1, e2, e3, e4, e5, e6])) | (refine AW.exit ?_; (try simp (implicitDefEqProofs := false) [↓callI, vopsN, vopsG, ↓step_slice, ↓Am.A.step, ↓binInt, ↓binStr, vopsE0, vopsE1, -vops, e1, e2, e3, e4, e5, e6])))
      refine AW.cond rfl (fun h => ?_) (fun h => ?_)
      · repeat (first | refine AW.seq ?_ | refine AW.block ?_ | (refine AW.reg mix ?_; (simp (implicitDefEqProofs := false) [↓callI, vopsN, vopsG, ↓step_slice, ↓Am.A.step, ↓binInt, ↓binStr, vopsE0, vopsE1, -vops, a1, a3]; try simp (disch := omega) only [w64, wu64])) | (refine need.of (by first | omega | kernel_rfl) ?_) | (refine AW.skip ?_; (try simp (implicitDefEqProofs := false) [↓callI, vopsN, vopsG, ↓step_slice, ↓Am.A.step, ↓binInt, ↓binStr, vopsE0, vopsE1, -vops, a1, a3])) | (refine AW.ret ?_; (try simp (implicitDefEqProofs := false) [↓callI, vopsN, vopsG, ↓step_slice, ↓Am.A.step, ↓binInt, ↓binStr, vopsE0, vopsE1, -vops, a1, a3])) | (refine AW.exit ?_; (try simp (implicitDefEqProofs := false) [↓callI, vopsN, vopsG, ↓step_slice, ↓Am.A.step, ↓binInt, ↓binStr, vopsE0, vopsE1, -vops, a1, a3])))
      · simp at h
    · repeat (first | refine AW.seq ?_ | refine AW.block ?_ | (refine AW.reg mix ?_; (simp (implicitDefEqProofs := false) [↓callI, vopsN, vopsG, ↓step_slice, ↓Am.A.step, ↓binInt, ↓binStr, vopsE0, vopsE1, -vops, e1, e2, e3, e4, e5, e6]; try simp (disch := omega) only [w64, wu64])) | (refine need.of (by first | omega | kernel_rfl) ?_) | (refine AW.skip ?_; (try simp (implicitDefEqProofs := false) [↓callI, vopsN, vopsG, ↓step_slice, ↓Am.A.step, ↓binInt, ↓binStr, vopsE0, vopsE1, -vops, e1, e2, e3, e4, e5, e6])) | (refine AW.ret ?_; (try simp (implicitDefEqProofs := false) [↓callI, vopsN, vopsG, ↓step_slice, ↓Am.A.step, ↓binInt, ↓binStr, vopsE0, vopsE1, -vops, e1, e2, e3, e4, e5, e6])) | (refine AW.exit ?_; (try simp (implicitDefEqProofs := false) [↓callI, vopsN, vopsG, ↓step_slice, ↓Am.A.step, ↓binInt, ↓binStr, vopsE0, vopsE1, -vops, e1, e2, e3, e4, e5, e6])))
      refine AW.cond rfl (fun h => ?_) (fun h => ?_)
      · simp at h
      repeat (first | refine AW.seq ?_ | refine AW.block ?_ | (refine AW.reg mix ?_; (simp (implicitDefEqProofs := false) [↓callI, vopsN, vopsG, ↓step_slice, ↓Am.A.step, ↓binInt, ↓binStr, vopsE0, vopsE1, -vops]; try simp (disch := omega) only [w64, wu64])) | (refine need.of (by first | omega | kernel_rfl) ?_) | (refine AW.skip ?_; (try simp (implicitDefEqProofs := false) [↓callI, vopsN, vopsG, ↓step_slice, ↓Am.A.step, ↓binInt, ↓binStr, vopsE0, vopsE1, -vops])) | (refine AW.ret ?_; (try simp (implicitDefEqProofs := false) [↓callI, vopsN, vopsG, ↓step_slice, ↓Am.A.step, ↓binInt, ↓binStr, vopsE0, vopsE1, -vops])) | (refine AW.exit ?_; (try simp (implicitDefEqProofs := false) [↓callI, vopsN, vopsG, ↓step_slice, ↓Am.A.step, ↓binInt, ↓binStr, vopsE0, vopsE1, -vops])))
      refine AW.cond rfl (fun h => ?_) (fun h => ?_)
      · repeat (first | refine AW.seq ?_ | refine AW.block ?_ | (refine AW.reg mix ?_; (simp (implicitDefEqProofs := false) [↓callI, vopsN, vopsG, ↓step_slice, ↓Am.A.step, ↓binInt, ↓binStr, vopsE0, vopsE1, -vops, a4]; try simp (disch := omega) only [w64, wu64])) | (refine need.of (by first | omega | kernel_rfl) ?_) | (refine AW.skip ?_; (try simp (implicitDefEqProofs := false) [↓callI, vopsN, vopsG, ↓step_slice, ↓Am.A.step, ↓binInt, ↓binStr, vopsE0, vopsE1, -vops, a4])) | (refine AW.ret ?_; (try simp (implicitDefEqProofs := false) [↓callI, vopsN, vopsG, ↓step_slice, ↓Am.A.step, ↓binInt, ↓binStr, vopsE0, vopsE1, -vops, a4])) | (refine AW.exit ?_; (try simp (implicitDefEqProofs := false) [↓callI, vopsN, vopsG, ↓step_slice, ↓Am.A.step, ↓binInt, ↓binStr, vopsE0, vopsE1, -vops, a4])))
      · simp at h
    · repeat (first | refine AW.seq ?_ | refine AW.block ?_ | (refine AW.reg mix ?_; (simp (implicitDefEqProofs := false) [↓callI, vopsN, vopsG, ↓step_slice, ↓Am.A.step, ↓binInt, ↓binStr, vopsE0, vopsE1, -vops, e1, e2, e3, e4, e5, e6]; try simp (disch := omega) only [w64, wu64])) | (refine need.of (by first | omega | kernel_rfl) ?_) | (refine AW.skip ?_; (try simp (implicitDefEqProofs := false) [↓callI, vopsN, vopsG, ↓step_slice, ↓Am.A.step, ↓binInt, ↓binStr, vopsE0, vopsE1, -vops, e1, e2, e3, e4, e5, e6])) | (refine AW.ret ?_; (try simp (implicitDefEqProofs := false) [↓callI, vopsN, vopsG, ↓step_slice, ↓Am.A.step, ↓binInt, ↓binStr, vopsE0, vopsE1, -vops, e1, e2, e3, e4, e5, e6])) | (refine AW.exit ?_; (try simp (implicitDefEqProofs := false) [↓callI, vopsN, vopsG, ↓step_slice, ↓Am.A.step, ↓binInt, ↓binStr, vopsE0, vopsE1, -vops, e1, e2, e3, e4, e5, e6])))
      refine AW.cond rfl (fun h => ?_) (fun h => ?_)
      · simp at h
      repeat (first | refine AW.seq ?_ | refine AW.block ?_ | (refine AW.reg mix ?_; (simp (implicitDefEqProofs := false) [↓callI, vopsN, vopsG, ↓step_slice, ↓Am.A.step, ↓binInt, ↓binStr, vopsE0, vopsE1, -vops]; try simp (disch := omega) only [w64, wu64])) | (refine need.of (by first | omega | kernel_rfl) ?_) | (refine AW.skip ?_; (try simp (implicitDefEqProofs := false) [↓callI, vopsN, vopsG, ↓step_slice, ↓Am.A.step, ↓binInt, ↓binStr, vopsE0, vopsE1, -vops])) | (refine AW.ret ?_; (try simp (implicitDefEqProofs := false) [↓callI, vopsN, vopsG, ↓step_slice, ↓Am.A.step, ↓binInt, ↓binStr, vopsE0, vopsE1, -vops])) | (refine AW.exit ?_; (try simp (implicitDefEqProofs := false) [↓callI, vopsN, vopsG, ↓step_slice, ↓Am.A.step, ↓binInt, ↓binStr, vopsE0, vopsE1, -vops])))
      refine AW.cond rfl (fun h => ?_) (fun h => ?_)
      · simp at h
      · repeat (first | refine AW.seq ?_ | refine AW.block ?_ | (refine AW.reg mix ?_; (simp (implicitDefEqProofs := false) [↓callI, vopsN, vopsG, ↓step_slice, ↓Am.A.step, ↓binInt, ↓binStr, vopsE0, vopsE1, -vops, a4, a6]; try simp (disch := omega) only [w64, wu64])) | (refine need.of (by first | omega | kernel_rfl) ?_) | (refine AW.skip ?_; (try simp (implicitDefEqProofs := false) [↓callI, vopsN, vopsG, ↓step_slice, ↓Am.A.step, ↓binInt, ↓binStr, vopsE0, vopsE1, -vops, a4, a6])) | (refine AW.ret ?_; (try simp (implicitDefEqProofs := false) [↓callI, vopsN, vopsG, ↓step_slice, ↓Am.A.step, ↓binInt, ↓binStr, vopsE0, vopsE1, -vops, a4, a6])) | (refine AW.exit ?_; (try simp (implicitDefEqProofs := false) [↓callI, vopsN, vopsG, ↓step_slice, ↓Am.A.step, ↓binInt, ↓binStr, vopsE0, vopsE1, -vops, a4, a6])))
  have hK' : K = 0 ∨ K = 1 ∨ K = 2 := by omega
  rcases hK' with rfl | rfl | rfl
  · exact ⟨_, _, _, ⟨by omega, by omega, by omega⟩, main (1 + A1) (by omega)⟩
  · exact ⟨_, _, _, ⟨by omega, by omega, by omega⟩, main A2 (by omega)⟩
  · exact ⟨_, _, _, ⟨by omega, by omega, by omega⟩, main (1 + A2) (by omega)⟩

theorem own_ok (k a w : Int) : Eqn Try.prog n_Tlaw15_Own [.d (parD k a w)] [] (.d (parD k a w)) [] := by
  refine Eqn.pure r_Tlaw15_Own (plain_d _) ?_
  simp only [c_Tlaw15_Own, parD]
  repeat (first | refine AW.seq ?_ | refine AW.block ?_ | (refine AW.reg mix ?_; (simp (implicitDefEqProofs := false) [↓callI, vopsN, vopsG, ↓step_slice, ↓Am.A.step, ↓binInt, ↓binStr, vopsE0, vopsE1, -vops]; try simp (disch := omega) only [w64, wu64])) | (refine need.of (by first | omega | kernel_rfl) ?_) | (refine AW.skip ?_; (try simp (implicitDefEqProofs := false) [↓callI, vopsN, vopsG, ↓step_slice, ↓Am.A.step, ↓binInt, ↓binStr, vopsE0, vopsE1, -vops])) | (refine AW.ret ?_; (try simp (implicitDefEqProofs := false) [↓callI, vopsN, vopsG, ↓step_slice, ↓Am.A.step, ↓binInt, ↓binStr, vopsE0, vopsE1, -vops])) | (refine AW.exit ?_; (try simp (implicitDefEqProofs := false) [↓callI, vopsN, vopsG, ↓step_slice, ↓Am.A.step, ↓binInt, ↓binStr, vopsE0, vopsE1, -vops])))

theorem rtop_ok (k a : Int) (w : Nat) (hw : w ≤ 60) : Eqn Try.prog n_Tref15_Top [.d (parD k a w)] [] (.d (.int .i64 (2 ^ w - 1 : Nat))) [] := by
  refine Eqn.pure r_Tref15_Top (plain_d _) ?_
  simp only [c_Tref15_Top, parD]
  have hs := rsize_ok w hw
  have h1 := p2_pos w
  have h2 := p2_le hw
  have e : 2 ^ w = p2 w := rfl
  rw [e]
  have h3 : p2 60 = 1152921504606846976 := by decide
  generalize p2 60 = z at *
  generalize p2 w = v at *
  have ew : IntKind.i64.wrap ((v : Int) - 1) = ((v - 1 : Nat) : Int) := by rw [w64 (by omega) (by omega)]; omega
  repeat (first | refine AW.seq ?_ | refine AW.block ?_ | (refine AW.reg mix ?_; (simp (implicitDefEqProofs := false) [↓callI, vopsN, vopsG, ↓step_slice, ↓Am.A.step, ↓binInt, ↓binStr, vopsE0, vopsE1, -vops]; try simp (disch := omega) only [w64, wu64])) | (refine need.of (by first | omega | kernel_rfl) ?_) | (refine AW.skip ?_; (try simp (implicitDefEqProofs := false) [↓callI, vopsN, vopsG, ↓step_slice, ↓Am.A.step, ↓binInt, ↓binStr, vopsE0, vopsE1, -vops])) | (refine AW.ret ?_; (try simp (implicitDefEqProofs := false) [↓callI, vopsN, vopsG, ↓step_slice, ↓Am.A.step, ↓binInt, ↓binStr, vopsE0, vopsE1, -vops])) | (refine AW.exit ?_; (try simp (implicitDefEqProofs := false) [↓callI, vopsN, vopsG, ↓step_slice, ↓Am.A.step, ↓binInt, ↓binStr, vopsE0, vopsE1, -vops])))
  refine CallS.pure (hs) (by first | exact plain_d _ | exact plain_tup2 _ _ | exact plain_tup3 _ _ _) rfl (fun _ => rfl) (Subs.refl _) ?_
  (try simp (implicitDefEqProofs := false) [↓callI, vopsN, vopsG, ↓step_slice, ↓Am.A.step, ↓binInt, ↓binStr, vopsE0, vopsE1, -vops, ew]; try simp (disch := omega) only [w64, wu64])
  repeat (first | refine AW.seq ?_ | refine AW.block ?_ | (refine AW.reg mix ?_; (simp (implicitDefEqProofs := false) [↓callI, vopsN, vopsG, ↓step_slice, ↓Am.A.step, ↓binInt, ↓binStr, vopsE0, vopsE1, -vops, ew]; try simp (disch := omega) only [w64, wu64])) | (refine need.of (by first | omega | kernel_rfl) ?_) | (refine AW.skip ?_; (try simp (implicitDefEqProofs := false) [↓callI, vopsN, vopsG, ↓step_slice, ↓Am.A.step, ↓binInt, ↓binStr, vopsE0, vopsE1, -vops, ew])) | (refine AW.ret ?_; (try simp (implicitDefEqProofs := false) [↓callI, vopsN, vopsG, ↓step_slice, ↓Am.A.step, ↓binInt, ↓binStr, vopsE0, vopsE1, -vops, ew])) | (refine AW.exit ?_; (try simp (implicitDefEqProofs := false) [↓callI, vopsN, vopsG, ↓step_slice, ↓Am.A.step, ↓binInt, ↓binStr, vopsE0, vopsE1, -vops, ew])))
end Go.Proofs.Ytakjegcjeffmgaa.Am
