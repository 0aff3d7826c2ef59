/- Parts of the proof: Reg2, Reg3, Reg4, PackM, Pack1, Pack2, Carr1, Carr2, Carr3, Carr6, Carr7, AmLB, Reg5, ChainG, ChainH, AmLaw, Reg6, Carr4. -/
import Derived.Test.YtdbfenhaljmbfaaGreatPe
namespace Go.Proofs.YtdbfenhaljmbfaaGreat.Am
section
set_option linter.unusedVariables false
set_option linter.unusedSimpArgs false
open Go.RowKit
set_option maxRecDepth 100000
set_option linter.unusedSimpArgs false
set_option linter.unusedVariables false

def wellTB (a b y t : Nat) (f : Bool) : Bool := decide (y ≤ a) && (decide (t ≤ b) && (!f || t == b))
theorem twellB_ok {a b : Nat} (h : GoodT a b) (y t : Nat) (f : Bool) : Eqn Tryz.prog n_thin_Param_Well [.d (tpD a b), .d (tsD y t f)] [] (.d (.bool (wellTB a b y t f))) [] := by
  refine Eqn.pure r_thin_Param_Well Plain.ok ?_
  have hc := tcheck_ok h
  have g3 : (0 : Int) ≤ y := by omega
  have g4 : (0 : Int) ≤ t := by omega
  simp only [c_thin_Param_Well, tpD, tsD, wellTB] at hc ⊢
  by_cases h1 : y ≤ a
  · have h1' : (y : Int) ≤ a := by omega
    by_cases h2 : t ≤ b
    · have h2' : (t : Int) ≤ b := by omega
      cases f with
      | true =>
        by_cases h3 : t = b
        · subst h3
          repeat (first | refine AW.seq ?_ | refine AW.block ?_ | (refine AW.reg mix ?_; simp (implicitDefEqProofs := false) [g3, g4, h1, h1', h2, h2']; try simp (disch := omega) only [w64, wu64]) | (refine need.of (by first | omega | kernel_rfl) ?_) | (refine AW.fin ?_; try simp (implicitDefEqProofs := false) [g3, g4, h1, h1', h2, h2']))
          refine CallS.pu (hc) ?_
          (try (simp (implicitDefEqProofs := false) [g3, g4, h1, h1', h2, h2']; try simp (disch := omega) only [w64, wu64]))
          repeat (first | refine AW.seq ?_ | refine AW.block ?_ | (refine AW.reg mix ?_; simp (implicitDefEqProofs := false) [g3, g4, h1, h1', h2, h2']; try simp (disch := omega) only [w64, wu64]) | (refine need.of (by first | omega | kernel_rfl) ?_) | (refine AW.fin ?_; try simp (implicitDefEqProofs := false) [g3, g4, h1, h1', h2, h2']))
        · have h3' : ¬ (t : Int) = b := by omega
          repeat (first | refine AW.seq ?_ | refine AW.block ?_ | (refine AW.reg mix ?_; simp (implicitDefEqProofs := false) [g3, g4, h1, h1', h2, h2', h3, h3']; try simp (disch := omega) only [w64, wu64]) | (refine need.of (by first | omega | kernel_rfl) ?_) | (refine AW.fin ?_; try simp (implicitDefEqProofs := false) [g3, g4, h1, h1', h2, h2', h3, h3']))
          refine CallS.pu (hc) ?_
          (try (simp (implicitDefEqProofs := false) [g3, g4, h1, h1', h2, h2', h3, h3']; try simp (disch := omega) only [w64, wu64]))
          repeat (first | refine AW.seq ?_ | refine AW.block ?_ | (refine AW.reg mix ?_; simp (implicitDefEqProofs := false) [g3, g4, h1, h1', h2, h2', h3, h3']; try simp (disch := omega) only [w64, wu64]) | (refine need.of (by first | omega | kernel_rfl) ?_) | (refine AW.fin ?_; try simp (implicitDefEqProofs := false) [g3, g4, h1, h1', h2, h2', h3, h3']))
          exact Sub1.bool (by rw [Bool.eq_iff_iff]; simp; omega)
      | false =>
        repeat (first | refine AW.seq ?_ | refine AW.block ?_ | (refine AW.reg mix ?_; simp (implicitDefEqProofs := false) [g3, g4, h1, h1', h2, h2']; try simp (disch := omega) only [w64, wu64]) | (refine need.of (by first | omega | kernel_rfl) ?_) | (refine AW.fin ?_; try simp (implicitDefEqProofs := false) [g3, g4, h1, h1', h2, h2']))
        refine CallS.pu (hc) ?_
        (try (simp (implicitDefEqProofs := false) [g3, g4, h1, h1', h2, h2']; try simp (disch := omega) only [w64, wu64]))
        repeat (first | refine AW.seq ?_ | refine AW.block ?_ | (refine AW.reg mix ?_; simp (implicitDefEqProofs := false) [g3, g4, h1, h1', h2, h2']; try simp (disch := omega) only [w64, wu64]) | (refine need.of (by first | omega | kernel_rfl) ?_) | (refine AW.fin ?_; try simp (implicitDefEqProofs := false) [g3, g4, h1, h1', h2, h2']))
    · have h2' : ¬ (t : Int) ≤ b := by omega
      repeat (first | refine AW.seq ?_ | refine AW.block ?_ | (refine AW.reg mix ?_; simp (implicitDefEqProofs := false) [g3, g4, h1, h1', h2, h2']; try simp (disch := omega) only [w64, wu64]) | (refine need.of (by first | omega | kernel_rfl) ?_) | (refine AW.fin ?_; try simp (implicitDefEqProofs := false) [g3, g4, h1, h1', h2, h2']))
      refine CallS.pu (hc) ?_
      (try (simp (implicitDefEqProofs := false) [g3, g4, h1, h1', h2, h2']; try simp (disch := omega) only [w64, wu64]))
      repeat (first | refine AW.seq ?_ | refine AW.block ?_ | (refine AW.reg mix ?_; simp (implicitDefEqProofs := false) [g3, g4, h1, h1', h2, h2']; try simp (disch := omega) only [w64, wu64]) | (refine need.of (by first | omega | kernel_rfl) ?_) | (refine AW.fin ?_; try simp (implicitDefEqProofs := false) [g3, g4, h1, h1', h2, h2']))
  · have h1' : ¬ (y : Int) ≤ a := by omega
    repeat (first | refine AW.seq ?_ | refine AW.block ?_ | (refine AW.reg mix ?_; simp (implicitDefEqProofs := false) [g3, g4, h1, h1']; try simp (disch := omega) only [w64, wu64]) | (refine need.of (by first | omega | kernel_rfl) ?_) | (refine AW.fin ?_; try simp (implicitDefEqProofs := false) [g3, g4, h1, h1']))
    refine CallS.pu (hc) ?_
    (try (simp (implicitDefEqProofs := false) [g3, g4, h1, h1']; try simp (disch := omega) only [w64, wu64]))
    repeat (first | refine AW.seq ?_ | refine AW.block ?_ | (refine AW.reg mix ?_; simp (implicitDefEqProofs := false) [g3, g4, h1, h1']; try simp (disch := omega) only [w64, wu64]) | (refine need.of (by first | omega | kernel_rfl) ?_) | (refine AW.fin ?_; try simp (implicitDefEqProofs := false) [g3, g4, h1, h1']))

theorem rthin_ok (k a b : Int) : Eqn Tryz.prog n_reg_Param_thin [.d (parD k a b)] [] (.d (tpD a b)) [] := by
  refine Eqn.pure r_reg_Param_thin Plain.ok ?_
  simp only [c_reg_Param_thin, parD, tpD]
  repeat (first | refine AW.seq ?_ | refine AW.block ?_ | (refine AW.reg mix ?_; simp (implicitDefEqProofs := false); try simp (disch := omega) only [w64, wu64]) | (refine need.of (by first | omega | kernel_rfl) ?_) | (refine AW.fin ?_; try simp (implicitDefEqProofs := false)))
theorem rchain_ok (k a b : Int) : Eqn Tryz.prog n_reg_Param_chain [.d (parD k a b)] [] (.d (parD k a b)) [] := by
  refine Eqn.pure r_reg_Param_chain Plain.ok ?_
  simp only [c_reg_Param_chain, parD]
  repeat (first | refine AW.seq ?_ | refine AW.block ?_ | (refine AW.reg mix ?_; simp (implicitDefEqProofs := false); try simp (disch := omega) only [w64, wu64]) | (refine need.of (by first | omega | kernel_rfl) ?_) | (refine AW.fin ?_; try simp (implicitDefEqProofs := false)))
theorem rthinned_ok (y t : Int) (f : Bool) : Eqn Tryz.prog n_reg_State_thinned [.d (.agg [.int .i64 y, .int .i64 t, .bool f])] [] (.d (.agg [.int .i64 y, .int .i64 t, .bool f])) [] := by
  refine Eqn.pure r_reg_State_thinned Plain.ok ?_
  simp only [c_reg_State_thinned]
  repeat (first | refine AW.seq ?_ | refine AW.block ?_ | (refine AW.reg mix ?_; simp (implicitDefEqProofs := false); try simp (disch := omega) only [w64, wu64]) | (refine need.of (by first | omega | kernel_rfl) ?_) | (refine AW.fin ?_; try simp (implicitDefEqProofs := false)))
theorem runthinned_ok (y t : Int) (f : Bool) : Eqn Tryz.prog n_reg_unthinned [.d (.agg [.int .i64 y, .int .i64 t, .bool f])] [] (.d (.agg [.int .i64 y, .int .i64 t, .bool f])) [] := by
  refine Eqn.pure r_reg_unthinned Plain.ok ?_
  simp only [c_reg_unthinned]
  repeat (first | refine AW.seq ?_ | refine AW.block ?_ | (refine AW.reg mix ?_; simp (implicitDefEqProofs := false); try simp (disch := omega) only [w64, wu64]) | (refine need.of (by first | omega | kernel_rfl) ?_) | (refine AW.fin ?_; try simp (implicitDefEqProofs := false)))
theorem rlink_ok (y t : Int) (f : Bool) : Eqn Tryz.prog n_reg_State_link [.d (.agg [.int .i64 y, .int .i64 t, .bool f])] [] (.d (.agg [.int .i64 y, .bool f])) [] := by
  refine Eqn.pure r_reg_State_link Plain.ok ?_
  simp only [c_reg_State_link]
  repeat (first | refine AW.seq ?_ | refine AW.block ?_ | (refine AW.reg mix ?_; simp (implicitDefEqProofs := false); try simp (disch := omega) only [w64, wu64]) | (refine need.of (by first | omega | kernel_rfl) ?_) | (refine AW.fin ?_; try simp (implicitDefEqProofs := false)))
theorem rlinked_ok (y : Int) (f : Bool) : Eqn Tryz.prog n_reg_linked [.d (.agg [.int .i64 y, .bool f])] [] (.d (.agg [.int .i64 y, .int .i64 0, .bool f])) [] := by
  refine Eqn.pure r_reg_linked Plain.ok ?_
  simp only [c_reg_linked]
  repeat (first | refine AW.seq ?_ | refine AW.block ?_ | (refine AW.reg mix ?_; simp (implicitDefEqProofs := false); try simp (disch := omega) only [w64, wu64]) | (refine need.of (by first | omega | kernel_rfl) ?_) | (refine AW.fin ?_; try simp (implicitDefEqProofs := false)))

theorem rcheck_ok {k a b : Nat} (h : GoodR k a b) : Eqn Tryz.prog n_reg_Param_Check [.d (parD k a b)] [] (.d (.int .i64 0)) [] := by
  refine Eqn.pure r_reg_Param_Check Plain.ok ?_
  rcases h with ⟨rfl, h⟩ | ⟨hk, h⟩
  · have h1 := rthin_ok 4 a b
    have h2 := tcheck_ok h
    simp only [c_reg_Param_Check, parD, tpD] at h1 h2 ⊢
    repeat (first | refine AW.seq ?_ | refine AW.block ?_ | (refine AW.reg mix ?_; simp (implicitDefEqProofs := false); try simp (disch := omega) only [w64, wu64]) | (refine need.of (by first | omega | kernel_rfl) ?_) | (refine AW.fin ?_; try simp (implicitDefEqProofs := false)))
    refine AW.cond rfl (fun h => ?_) (fun h => ?_)
    · repeat (first | refine AW.seq ?_ | refine AW.block ?_ | (refine AW.reg mix ?_; simp (implicitDefEqProofs := false); try simp (disch := omega) only [w64, wu64]) | (refine need.of (by first | omega | kernel_rfl) ?_) | (refine AW.fin ?_; try simp (implicitDefEqProofs := false)))
      refine CallS.pu (h1) ?_
      (try (simp (implicitDefEqProofs := false); try simp (disch := omega) only [w64, wu64]))
      repeat (first | refine AW.seq ?_ | refine AW.block ?_ | (refine AW.reg mix ?_; simp (implicitDefEqProofs := false); try simp (disch := omega) only [w64, wu64]) | (refine need.of (by first | omega | kernel_rfl) ?_) | (refine AW.fin ?_; try simp (implicitDefEqProofs := false)))
      refine CallS.pu (h2) ?_
      (try (simp (implicitDefEqProofs := false); try simp (disch := omega) only [w64, wu64]))
      repeat (first | refine AW.seq ?_ | refine AW.block ?_ | (refine AW.reg mix ?_; simp (implicitDefEqProofs := false); try simp (disch := omega) only [w64, wu64]) | (refine need.of (by first | omega | kernel_rfl) ?_) | (refine AW.fin ?_; try simp (implicitDefEqProofs := false)))
    · simp at h
  · have h1 := rchain_ok k a b
    have h2 := goodC_check h
    have hk' : ¬ (k : Int) = 4 := by omega
    simp only [c_reg_Param_Check, parD] at h1 h2 ⊢
    repeat (first | refine AW.seq ?_ | refine AW.block ?_ | (refine AW.reg mix ?_; simp (implicitDefEqProofs := false) [hk, hk']; try simp (disch := omega) only [w64, wu64]) | (refine need.of (by first | omega | kernel_rfl) ?_) | (refine AW.fin ?_; try simp (implicitDefEqProofs := false) [hk, hk']))
    refine AW.cond rfl (fun h => ?_) (fun h => ?_)
    · simp [hk'] at h
    · repeat (first | refine AW.seq ?_ | refine AW.block ?_ | (refine AW.reg mix ?_; simp (implicitDefEqProofs := false); try simp (disch := omega) only [w64, wu64]) | (refine need.of (by first | omega | kernel_rfl) ?_) | (refine AW.fin ?_; try simp (implicitDefEqProofs := false)))
      refine CallS.pu (h1) ?_
      (try (simp (implicitDefEqProofs := false); try simp (disch := omega) only [w64, wu64]))
      repeat (first | refine AW.seq ?_ | refine AW.block ?_ | (refine AW.reg mix ?_; simp (implicitDefEqProofs := false); try simp (disch := omega) only [w64, wu64]) | (refine need.of (by first | omega | kernel_rfl) ?_) | (refine AW.fin ?_; try simp (implicitDefEqProofs := false)))
      refine CallS.pu (h2) ?_
      (try (simp (implicitDefEqProofs := false); try simp (disch := omega) only [w64, wu64]))
      repeat (first | refine AW.seq ?_ | refine AW.block ?_ | (refine AW.reg mix ?_; simp (implicitDefEqProofs := false); try simp (disch := omega) only [w64, wu64]) | (refine need.of (by first | omega | kernel_rfl) ?_) | (refine AW.fin ?_; try simp (implicitDefEqProofs := false)))

def wellRB (k a b y t : Nat) (f : Bool) : Bool := if k = 4 then wellTB a b y t f else (t == 0) && (decide (y ≤ 2 ^ b - 1) && (!f || y == 2 ^ b - 1))
theorem wellRB_iff {k a b y t : Nat} {f : Bool} : wellRB k a b y t f = true ↔ WellR k a b y t f := by
  unfold wellRB WellR wellTB WellT
  by_cases hk : k = 4
  · subst hk
    simp
    intro _ _
    cases f <;> simp
  · simp [hk]
    intro _ _
    cases f <;> simp

theorem rwell_ok {k a b : Nat} (h : GoodR k a b) (y t : Nat) (f : Bool) : Eqn Tryz.prog n_reg_Param_Well [.d (parD k a b), .d (tsD y t f)] [] (.d (.bool (wellRB k a b y t f))) [] := by
  refine Eqn.pure r_reg_Param_Well Plain.ok ?_
  have hc := rcheck_ok h
  rcases h with ⟨rfl, h⟩ | ⟨hk, h⟩
  · have h1 := rthin_ok 4 a b
    have h2 := twellB_ok h y t f
    have h3 := rthinned_ok y t f
    simp only [c_reg_Param_Well, parD, tpD, tsD, wellRB, if_true] at hc h1 h2 h3 ⊢
    generalize wellTB a b y t f = w at *
    repeat (first | refine AW.seq ?_ | refine AW.block ?_ | (refine AW.reg mix ?_; simp (implicitDefEqProofs := false); try simp (disch := omega) only [w64, wu64]) | (refine need.of (by first | omega | kernel_rfl) ?_) | (refine AW.fin ?_; try simp (implicitDefEqProofs := false)))
    refine CallS.pu (hc) ?_
    (try (simp (implicitDefEqProofs := false); try simp (disch := omega) only [w64, wu64]))
    repeat (first | refine AW.seq ?_ | refine AW.block ?_ | (refine AW.reg mix ?_; simp (implicitDefEqProofs := false); try simp (disch := omega) only [w64, wu64]) | (refine need.of (by first | omega | kernel_rfl) ?_) | (refine AW.fin ?_; try simp (implicitDefEqProofs := false)))
    refine AW.cond rfl (fun h => ?_) (fun h => ?_)
    · simp at h
    repeat (first | refine AW.seq ?_ | refine AW.block ?_ | (refine AW.reg mix ?_; simp (implicitDefEqProofs := false); try simp (disch := omega) only [w64, wu64]) | (refine need.of (by first | omega | kernel_rfl) ?_) | (refine AW.fin ?_; try simp (implicitDefEqProofs := false)))
    refine AW.cond rfl (fun h => ?_) (fun h => ?_)
    · repeat (first | refine AW.seq ?_ | refine AW.block ?_ | (refine AW.reg mix ?_; simp (implicitDefEqProofs := false); try simp (disch := omega) only [w64, wu64]) | (refine need.of (by first | omega | kernel_rfl) ?_) | (refine AW.fin ?_; try simp (implicitDefEqProofs := false)))
      refine CallS.pu (h1) ?_
      (try (simp (implicitDefEqProofs := false); try simp (disch := omega) only [w64, wu64]))
      repeat (first | refine AW.seq ?_ | refine AW.block ?_ | (refine AW.reg mix ?_; simp (implicitDefEqProofs := false); try simp (disch := omega) only [w64, wu64]) | (refine need.of (by first | omega | kernel_rfl) ?_) | (refine AW.fin ?_; try simp (implicitDefEqProofs := false)))
      refine CallS.pu (h3) ?_
      (try (simp (implicitDefEqProofs := false); try simp (disch := omega) only [w64, wu64]))
      repeat (first | refine AW.seq ?_ | refine AW.block ?_ | (refine AW.reg mix ?_; simp (implicitDefEqProofs := false); try simp (disch := omega) only [w64, wu64]) | (refine need.of (by first | omega | kernel_rfl) ?_) | (refine AW.fin ?_; try simp (implicitDefEqProofs := false)))
      refine CallS.pu (h2) ?_
      (try (simp (implicitDefEqProofs := false); try simp (disch := omega) only [w64, wu64]))
      repeat (first | refine AW.seq ?_ | refine AW.block ?_ | (refine AW.reg mix ?_; simp (implicitDefEqProofs := false); try simp (disch := omega) only [w64, wu64]) | (refine need.of (by first | omega | kernel_rfl) ?_) | (refine AW.fin ?_; try simp (implicitDefEqProofs := false)))
    · simp at h
  · have h1 := rchain_ok k a b
    have h2 := top_ok k a b h.2.2 (goodC_check h)
    have hk' : ¬ (k : Int) = 4 := by omega
    have g : (0 : Int) ≤ y := by omega
    simp only [c_reg_Param_Well, parD, tsD, wellRB, if_neg hk] at hc h1 h2 ⊢
    generalize 2 ^ b - 1 = S at *
    by_cases ht : t = 0
    · subst ht
      by_cases hy : y ≤ S
      · have hy' : (y : Int) ≤ S := by omega
        cases f with
        | true =>
          by_cases hs : y = S
          · subst hs
            repeat (first | refine AW.seq ?_ | refine AW.block ?_ | (refine AW.reg mix ?_; simp (implicitDefEqProofs := false) [g, hk, hk']; try simp (disch := omega) only [w64, wu64]) | (refine need.of (by first | omega | kernel_rfl) ?_) | (refine AW.fin ?_; try simp (implicitDefEqProofs := false) [g, hk, hk']))
            refine CallS.pu (hc) ?_
            (try (simp (implicitDefEqProofs := false) [g, hk, hk']; try simp (disch := omega) only [w64, wu64]))
            repeat (first | refine AW.seq ?_ | refine AW.block ?_ | (refine AW.reg mix ?_; simp (implicitDefEqProofs := false) [g, hk, hk']; try simp (disch := omega) only [w64, wu64]) | (refine need.of (by first | omega | kernel_rfl) ?_) | (refine AW.fin ?_; try simp (implicitDefEqProofs := false) [g, hk, hk']))
            refine AW.cond rfl (fun h => ?_) (fun h => ?_)
            · simp at h
            repeat (first | refine AW.seq ?_ | refine AW.block ?_ | (refine AW.reg mix ?_; simp (implicitDefEqProofs := false) [g, hk, hk']; try simp (disch := omega) only [w64, wu64]) | (refine need.of (by first | omega | kernel_rfl) ?_) | (refine AW.fin ?_; try simp (implicitDefEqProofs := false) [g, hk, hk']))
            refine AW.cond rfl (fun h => ?_) (fun h => ?_)
            · simp [hk'] at h
            repeat (first | refine AW.seq ?_ | refine AW.block ?_ | (refine AW.reg mix ?_; simp (implicitDefEqProofs := false) [g]; try simp (disch := omega) only [w64, wu64]) | (refine need.of (by first | omega | kernel_rfl) ?_) | (refine AW.fin ?_; try simp (implicitDefEqProofs := false) [g]))
            refine CallS.pu (h1) ?_
            (try (simp (implicitDefEqProofs := false) [g]; try simp (disch := omega) only [w64, wu64]))
            repeat (first | refine AW.seq ?_ | refine AW.block ?_ | (refine AW.reg mix ?_; simp (implicitDefEqProofs := false) [g]; try simp (disch := omega) only [w64, wu64]) | (refine need.of (by first | omega | kernel_rfl) ?_) | (refine AW.fin ?_; try simp (implicitDefEqProofs := false) [g]))
            refine CallS.pu (h2) ?_
            (try (simp (implicitDefEqProofs := false) [g]; try simp (disch := omega) only [w64, wu64]))
            repeat (first | refine AW.seq ?_ | refine AW.block ?_ | (refine AW.reg mix ?_; simp (implicitDefEqProofs := false) [g]; try simp (disch := omega) only [w64, wu64]) | (refine need.of (by first | omega | kernel_rfl) ?_) | (refine AW.fin ?_; try simp (implicitDefEqProofs := false) [g]))
          · have hs' : ¬ (y : Int) = S := by omega
            repeat (first | refine AW.seq ?_ | refine AW.block ?_ | (refine AW.reg mix ?_; simp (implicitDefEqProofs := false) [g, hk, hk', hy, hy', hs, hs']; try simp (disch := omega) only [w64, wu64]) | (refine need.of (by first | omega | kernel_rfl) ?_) | (refine AW.fin ?_; try simp (implicitDefEqProofs := false) [g, hk, hk', hy, hy', hs, hs']))
            refine CallS.pu (hc) ?_
            (try (simp (implicitDefEqProofs := false) [g, hk, hk', hy, hy', hs, hs']; try simp (disch := omega) only [w64, wu64]))
            repeat (first | refine AW.seq ?_ | refine AW.block ?_ | (refine AW.reg mix ?_; simp (implicitDefEqProofs := false) [g, hk, hk', hy, hy', hs, hs']; try simp (disch := omega) only [w64, wu64]) | (refine need.of (by first | omega | kernel_rfl) ?_) | (refine AW.fin ?_; try simp (implicitDefEqProofs := false) [g, hk, hk', hy, hy', hs, hs']))
            refine AW.cond rfl (fun h => ?_) (fun h => ?_)
            · simp at h
            repeat (first | refine AW.seq ?_ | refine AW.block ?_ | (refine AW.reg mix ?_; simp (implicitDefEqProofs := false) [g, hk, hk', hy, hy', hs, hs']; try simp (disch := omega) only [w64, wu64]) | (refine need.of (by first | omega | kernel_rfl) ?_) | (refine AW.fin ?_; try simp (implicitDefEqProofs := false) [g, hk, hk', hy, hy', hs, hs']))
            refine AW.cond rfl (fun h => ?_) (fun h => ?_)
            · simp [hk'] at h
            repeat (first | refine AW.seq ?_ | refine AW.block ?_ | (refine AW.reg mix ?_; simp (implicitDefEqProofs := false) [g]; try simp (disch := omega) only [w64, wu64]) | (refine need.of (by first | omega | kernel_rfl) ?_) | (refine AW.fin ?_; try simp (implicitDefEqProofs := false) [g]))
            refine CallS.pu (h1) ?_
            (try (simp (implicitDefEqProofs := false) [g]; try simp (disch := omega) only [w64, wu64]))
            repeat (first | refine AW.seq ?_ | refine AW.block ?_ | (refine AW.reg mix ?_; simp (implicitDefEqProofs := false) [g]; try simp (disch := omega) only [w64, wu64]) | (refine need.of (by first | omega | kernel_rfl) ?_) | (refine AW.fin ?_; try simp (implicitDefEqProofs := false) [g]))
            refine CallS.pu (h2) ?_
            (try (simp (implicitDefEqProofs := false) [g, hy, hy', hs, hs']; try simp (disch := omega) only [w64, wu64]))
            repeat (first | refine AW.seq ?_ | refine AW.block ?_ | (refine AW.reg mix ?_; simp (implicitDefEqProofs := false) [g, hy, hy', hs, hs']; try simp (disch := omega) only [w64, wu64]) | (refine need.of (by first | omega | kernel_rfl) ?_) | (refine AW.fin ?_; try simp (implicitDefEqProofs := false) [g, hy, hy', hs, hs']))
            exact Sub1.bool (by rw [Bool.eq_iff_iff]; simp; omega)
        | false =>
          repeat (first | refine AW.seq ?_ | refine AW.block ?_ | (refine AW.reg mix ?_; simp (implicitDefEqProofs := false) [g, hk, hk', hy, hy']; try simp (disch := omega) only [w64, wu64]) | (refine need.of (by first | omega | kernel_rfl) ?_) | (refine AW.fin ?_; try simp (implicitDefEqProofs := false) [g, hk, hk', hy, hy']))
          refine CallS.pu (hc) ?_
          (try (simp (implicitDefEqProofs := false) [g, hk, hk', hy, hy']; try simp (disch := omega) only [w64, wu64]))
          repeat (first | refine AW.seq ?_ | refine AW.block ?_ | (refine AW.reg mix ?_; simp (implicitDefEqProofs := false) [g, hk, hk', hy, hy']; try simp (disch := omega) only [w64, wu64]) | (refine need.of (by first | omega | kernel_rfl) ?_) | (refine AW.fin ?_; try simp (implicitDefEqProofs := false) [g, hk, hk', hy, hy']))
          refine AW.cond rfl (fun h => ?_) (fun h => ?_)
          · simp at h
          repeat (first | refine AW.seq ?_ | refine AW.block ?_ | (refine AW.reg mix ?_; simp (implicitDefEqProofs := false) [g, hk, hk', hy, hy']; try simp (disch := omega) only [w64, wu64]) | (refine need.of (by first | omega | kernel_rfl) ?_) | (refine AW.fin ?_; try simp (implicitDefEqProofs := false) [g, hk, hk', hy, hy']))
          refine AW.cond rfl (fun h => ?_) (fun h => ?_)
          · simp [hk'] at h
          repeat (first | refine AW.seq ?_ | refine AW.block ?_ | (refine AW.reg mix ?_; simp (implicitDefEqProofs := false) [g]; try simp (disch := omega) only [w64, wu64]) | (refine need.of (by first | omega | kernel_rfl) ?_) | (refine AW.fin ?_; try simp (implicitDefEqProofs := false) [g]))
          refine CallS.pu (h1) ?_
          (try (simp (implicitDefEqProofs := false) [g]; try simp (disch := omega) only [w64, wu64]))
          repeat (first | refine AW.seq ?_ | refine AW.block ?_ | (refine AW.reg mix ?_; simp (implicitDefEqProofs := false) [g]; try simp (disch := omega) only [w64, wu64]) | (refine need.of (by first | omega | kernel_rfl) ?_) | (refine AW.fin ?_; try simp (implicitDefEqProofs := false) [g]))
          refine CallS.pu (h2) ?_
          (try (simp (implicitDefEqProofs := false) [g, hy, hy']; try simp (disch := omega) only [w64, wu64]))
          repeat (first | refine AW.seq ?_ | refine AW.block ?_ | (refine AW.reg mix ?_; simp (implicitDefEqProofs := false) [g, hy, hy']; try simp (disch := omega) only [w64, wu64]) | (refine need.of (by first | omega | kernel_rfl) ?_) | (refine AW.fin ?_; try simp (implicitDefEqProofs := false) [g, hy, hy']))
      · have hy' : ¬ (y : Int) ≤ S := by omega
        repeat (first | refine AW.seq ?_ | refine AW.block ?_ | (refine AW.reg mix ?_; simp (implicitDefEqProofs := false) [g, hk, hk', hy, hy']; try simp (disch := omega) only [w64, wu64]) | (refine need.of (by first | omega | kernel_rfl) ?_) | (refine AW.fin ?_; try simp (implicitDefEqProofs := false) [g, hk, hk', hy, hy']))
        refine CallS.pu (hc) ?_
        (try (simp (implicitDefEqProofs := false) [g, hk, hk', hy, hy']; try simp (disch := omega) only [w64, wu64]))
        repeat (first | refine AW.seq ?_ | refine AW.block ?_ | (refine AW.reg mix ?_; simp (implicitDefEqProofs := false) [g, hk, hk', hy, hy']; try simp (disch := omega) only [w64, wu64]) | (refine need.of (by first | omega | kernel_rfl) ?_) | (refine AW.fin ?_; try simp (implicitDefEqProofs := false) [g, hk, hk', hy, hy']))
        refine AW.cond rfl (fun h => ?_) (fun h => ?_)
        · simp at h
        repeat (first | refine AW.seq ?_ | refine AW.block ?_ | (refine AW.reg mix ?_; simp (implicitDefEqProofs := false) [g, hk, hk', hy, hy']; try simp (disch := omega) only [w64, wu64]) | (refine need.of (by first | omega | kernel_rfl) ?_) | (refine AW.fin ?_; try simp (implicitDefEqProofs := false) [g, hk, hk', hy, hy']))
        refine AW.cond rfl (fun h => ?_) (fun h => ?_)
        · simp [hk'] at h
        repeat (first | refine AW.seq ?_ | refine AW.block ?_ | (refine AW.reg mix ?_; simp (implicitDefEqProofs := false) [g]; try simp (disch := omega) only [w64, wu64]) | (refine need.of (by first | omega | kernel_rfl) ?_) | (refine AW.fin ?_; try simp (implicitDefEqProofs := false) [g]))
        refine CallS.pu (h1) ?_
        (try (simp (implicitDefEqProofs := false) [g]; try simp (disch := omega) only [w64, wu64]))
        repeat (first | refine AW.seq ?_ | refine AW.block ?_ | (refine AW.reg mix ?_; simp (implicitDefEqProofs := false) [g]; try simp (disch := omega) only [w64, wu64]) | (refine need.of (by first | omega | kernel_rfl) ?_) | (refine AW.fin ?_; try simp (implicitDefEqProofs := false) [g]))
        refine CallS.pu (h2) ?_
        (try (simp (implicitDefEqProofs := false) [g, hy, hy']; try simp (disch := omega) only [w64, wu64]))
        repeat (first | refine AW.seq ?_ | refine AW.block ?_ | (refine AW.reg mix ?_; simp (implicitDefEqProofs := false) [g, hy, hy']; try simp (disch := omega) only [w64, wu64]) | (refine need.of (by first | omega | kernel_rfl) ?_) | (refine AW.fin ?_; try simp (implicitDefEqProofs := false) [g, hy, hy']))
    · have ht' : ¬ (t : Int) = 0 := by omega
      repeat (first | refine AW.seq ?_ | refine AW.block ?_ | (refine AW.reg mix ?_; simp (implicitDefEqProofs := false) [g, hk, hk', ht, ht']; try simp (disch := omega) only [w64, wu64]) | (refine need.of (by first | omega | kernel_rfl) ?_) | (refine AW.fin ?_; try simp (implicitDefEqProofs := false) [g, hk, hk', ht, ht']))
      refine CallS.pu (hc) ?_
      (try (simp (implicitDefEqProofs := false) [g, hk, hk', ht, ht']; try simp (disch := omega) only [w64, wu64]))
      repeat (first | refine AW.seq ?_ | refine AW.block ?_ | (refine AW.reg mix ?_; simp (implicitDefEqProofs := false) [g, hk, hk', ht, ht']; try simp (disch := omega) only [w64, wu64]) | (refine need.of (by first | omega | kernel_rfl) ?_) | (refine AW.fin ?_; try simp (implicitDefEqProofs := false) [g, hk, hk', ht, ht']))
      refine AW.cond rfl (fun h => ?_) (fun h => ?_)
      · simp at h
      repeat (first | refine AW.seq ?_ | refine AW.block ?_ | (refine AW.reg mix ?_; simp (implicitDefEqProofs := false) [g, hk, hk', ht, ht']; try simp (disch := omega) only [w64, wu64]) | (refine need.of (by first | omega | kernel_rfl) ?_) | (refine AW.fin ?_; try simp (implicitDefEqProofs := false) [g, hk, hk', ht, ht']))
      refine AW.cond rfl (fun h => ?_) (fun h => ?_)
      · simp [hk'] at h
      repeat (first | refine AW.seq ?_ | refine AW.block ?_ | (refine AW.reg mix ?_; simp (implicitDefEqProofs := false) [g]; try simp (disch := omega) only [w64, wu64]) | (refine need.of (by first | omega | kernel_rfl) ?_) | (refine AW.fin ?_; try simp (implicitDefEqProofs := false) [g]))
      refine CallS.pu (h1) ?_
      (try (simp (implicitDefEqProofs := false) [g]; try simp (disch := omega) only [w64, wu64]))
      repeat (first | refine AW.seq ?_ | refine AW.block ?_ | (refine AW.reg mix ?_; simp (implicitDefEqProofs := false) [g]; try simp (disch := omega) only [w64, wu64]) | (refine need.of (by first | omega | kernel_rfl) ?_) | (refine AW.fin ?_; try simp (implicitDefEqProofs := false) [g]))
      refine CallS.pu (h2) ?_
      (try (simp (implicitDefEqProofs := false) [g, ht, ht']; try simp (disch := omega) only [w64, wu64]))
      repeat (first | refine AW.seq ?_ | refine AW.block ?_ | (refine AW.reg mix ?_; simp (implicitDefEqProofs := false) [g, ht, ht']; try simp (disch := omega) only [w64, wu64]) | (refine need.of (by first | omega | kernel_rfl) ?_) | (refine AW.fin ?_; try simp (implicitDefEqProofs := false) [g, ht, ht']))
      exact Sub1.bool (by simp [ht])

theorem rwrong1_ok {k a b y t : Nat} {f : Bool} (h : GoodR k a b) (hw : WellR k a b y t f) : Eqn Tryz.prog n_reg_Param_wrong [.d (parD k a b), .d (.sl 1 [.int .i64 y, .int .i64 t, .bool f])] [] (.d (.int .i64 0)) [] := by
  refine Eqn.pure r_reg_Param_wrong Plain.ok ?_
  have hc := rcheck_ok h
  have hw1 := rwell_ok h y t f
  rw [wellRB_iff.2 hw] at hw1
  simp only [c_reg_Param_wrong, parD, tsD] at hc hw1 ⊢
  repeat (first | refine AW.seq ?_ | refine AW.block ?_ | (refine AW.reg mix ?_; simp (implicitDefEqProofs := false); try simp (disch := omega) only [w64, wu64]) | (refine need.of (by first | omega | kernel_rfl) ?_) | (refine AW.fin ?_; try simp (implicitDefEqProofs := false)))
  refine CallS.pu (hc) ?_
  (try (simp (implicitDefEqProofs := false); try simp (disch := omega) only [w64, wu64]))
  repeat (first | refine AW.seq ?_ | refine AW.block ?_ | (refine AW.reg mix ?_; simp (implicitDefEqProofs := false); try simp (disch := omega) only [w64, wu64]) | (refine need.of (by first | omega | kernel_rfl) ?_) | (refine AW.fin ?_; try simp (implicitDefEqProofs := false)))
  refine AW.cond rfl (fun h => ?_) (fun h => ?_)
  · simp at h
  repeat (first | refine AW.seq ?_ | refine AW.block ?_ | (refine AW.reg mix ?_; simp (implicitDefEqProofs := false); try simp (disch := omega) only [w64, wu64]) | (refine need.of (by first | omega | kernel_rfl) ?_) | (refine AW.fin ?_; try simp (implicitDefEqProofs := false)))
  refine AW.loopT (α := Nat) 1 (fun i => [(15, .d (.int .i64 (i : Int)))]) (fun i => []) (fun i => i ≤ 1) (fun i => 1 - i) 0 ?_ ?_ (Nat.zero_le _) ?_ ?_ ?_
  · simp
  · simp
  · simp
  · simp
  rintro i hi
  simp
  have hi' : i = 0 ∨ i = 1 := by omega
  rcases hi' with rfl | rfl
  · repeat (first | refine AW.seq ?_ | refine AW.block ?_ | (refine AW.reg mix ?_; simp (implicitDefEqProofs := false); try simp (disch := omega) only [w64, wu64]) | (refine need.of (by first | omega | kernel_rfl) ?_) | (refine AW.fin ?_; try simp (implicitDefEqProofs := false)))
    refine AW.cond rfl (fun h => ?_) (fun h => ?_)
    · repeat (first | refine AW.seq ?_ | refine AW.block ?_ | (refine AW.reg mix ?_; simp (implicitDefEqProofs := false); try simp (disch := omega) only [w64, wu64]) | (refine need.of (by first | omega | kernel_rfl) ?_) | (refine AW.fin ?_; try simp (implicitDefEqProofs := false)))
      refine CallS.pu (hw1) ?_
      (try (simp (implicitDefEqProofs := false); try simp (disch := omega) only [w64, wu64]))
      repeat (first | refine AW.seq ?_ | refine AW.block ?_ | (refine AW.reg mix ?_; simp (implicitDefEqProofs := false); try simp (disch := omega) only [w64, wu64]) | (refine need.of (by first | omega | kernel_rfl) ?_) | (refine AW.fin ?_; try simp (implicitDefEqProofs := false)))
      refine AW.cond rfl (fun h => ?_) (fun h => ?_)
      · simp at h
      have ew : IntKind.i64.wrap 1 = 1 := w64 (by omega) (by omega)
      repeat (first | refine AW.seq ?_ | refine AW.block ?_ | (refine AW.reg mix ?_; simp (implicitDefEqProofs := false) [ew]; try simp (disch := omega) only [w64, wu64]) | (refine need.of (by first | omega | kernel_rfl) ?_) | (refine AW.fin ?_; try simp (implicitDefEqProofs := false) [ew]))
      exact ⟨1, by omega, by omega, by simp⟩
    · simp at h
  · repeat (first | refine AW.seq ?_ | refine AW.block ?_ | (refine AW.reg mix ?_; simp (implicitDefEqProofs := false); try simp (disch := omega) only [w64, wu64]) | (refine need.of (by first | omega | kernel_rfl) ?_) | (refine AW.fin ?_; try simp (implicitDefEqProofs := false)))
    refine AW.cond rfl (fun h => ?_) (fun h => ?_)
    · simp at h
    refine AW.exit ?_
    (try (simp (implicitDefEqProofs := false); try simp (disch := omega) only [w64, wu64]))
    repeat (first | refine AW.seq ?_ | refine AW.block ?_ | (refine AW.reg mix ?_; simp (implicitDefEqProofs := false); try simp (disch := omega) only [w64, wu64]) | (refine need.of (by first | omega | kernel_rfl) ?_) | (refine AW.fin ?_; try simp (implicitDefEqProofs := false)))
end
end Go.Proofs.YtdbfenhaljmbfaaGreat.Am
namespace Go.Proofs.YtdbfenhaljmbfaaGreat.Am
section
set_option linter.unusedVariables false
set_option linter.unusedSimpArgs false
open Go.RowKit
set_option maxRecDepth 100000
set_option linter.unusedSimpArgs false
set_option linter.unusedVariables false

/-- what is handed back: with an error it is what it was -/
def stR (R : TR) (y t : Nat) (f : Bool) : D := if R.e = 0 then tsD R.y R.t R.f else tsD y t f

theorem radd_int (cs : List Bool) (k a b y t : Nat) (f : Bool) (n : Nat) (m : Int) (hmx : max 0 m = (n : Int)) (p : Nat) (d : Bool) (h : GoodR k a b) (hw : WellR k a b y t f) (hn : m ≤ 1048576) (hp : p ≤ cs.length) (hc : cs.length ≤ 4000000) (R : TR) (hR : R = addRM cs k a b n y t f p d) :
    Eqn Tryz.prog n_reg_Param_Add [.d (parD k a b), .p 0 0, .d (tsD y t f), .d (.int .i64 m)] [tapeO cs p d] (.tup [.d (stR R y t f), .d (.int .i64 R.e)]) [tapeO cs R.p R.d] := by
  refine Eqn.obj1 r_reg_Param_Add Plain.ok ⟨rfl, fun _ => rfl⟩ ?_
  have hwr := rwrong1_ok h hw
  rcases hw with ⟨rfl, hw⟩ | ⟨hk, rfl, hy, hf⟩
  · replace h : GoodT a b := by
      rcases h with ⟨-, h⟩ | ⟨hk, -⟩
      · exact h
      · exact absurd rfl hk
    rw [addRM, if_pos rfl] at hR
    have h1 := rthin_ok 4 a b
    have h2 := rthinned_ok y t f
    have h3 := tadd_ok cs a b y t f m p d h hw (by omega) hp hc R (by rw [hR]; congr 1; omega)
    clear hR
    obtain ⟨e, ry, rt, rf, rp, rd⟩ := R
    have h4 : ∀ y t f, _ := runthinned_ok
    simp only [c_reg_Param_Add, parD, tpD, tsD, stR, show ((4 : Nat) : Int) = 4 from rfl] at hwr h1 h2 h3 ⊢
    obtain ⟨Y, T, F, hS⟩ : ∃ (Y T : Nat) (F : Bool), (if e = 0 then D.agg [.int .i64 ry, .int .i64 rt, .bool rf] else D.agg [.int .i64 y, .int .i64 t, .bool f]) = D.agg [.int .i64 Y, .int .i64 T, .bool F] := by
      split
      · exact ⟨ry, rt, rf, rfl⟩
      · exact ⟨y, t, f, rfl⟩
    rw [hS] at h3 ⊢
    repeat (first | refine AW.seq ?_ | refine AW.block ?_ | (refine AW.reg mix ?_; simp (implicitDefEqProofs := false) [-Bool.exists_bool]; try simp (disch := omega) only [w64, wu64]) | (refine need.of (by first | omega | kernel_rfl) ?_) | (refine AW.fin ?_; try simp (implicitDefEqProofs := false) [-Bool.exists_bool]))
    refine CallS.pf 4 3 ⟨36, _⟩ [.int .i64 y, .int .i64 t, .bool f] (hwr) (by first | rfl | (simp [-Bool.exists_bool]; done)) ?_
    (try (simp (implicitDefEqProofs := false) [-Bool.exists_bool]; try simp (disch := omega) only [w64, wu64]))
    repeat (first | refine AW.seq ?_ | refine AW.block ?_ | (refine AW.reg mix ?_; simp (implicitDefEqProofs := false) [-Bool.exists_bool]; try simp (disch := omega) only [w64, wu64]) | (refine need.of (by first | omega | kernel_rfl) ?_) | (refine AW.fin ?_; try simp (implicitDefEqProofs := false) [-Bool.exists_bool]))
    refine AW.cond rfl (fun h => ?_) (fun h => ?_)
    · simp at h
    repeat (first | refine AW.seq ?_ | refine AW.block ?_ | (refine AW.reg mix ?_; simp (implicitDefEqProofs := false) [-Bool.exists_bool]; try simp (disch := omega) only [w64, wu64]) | (refine need.of (by first | omega | kernel_rfl) ?_) | (refine AW.fin ?_; try simp (implicitDefEqProofs := false) [-Bool.exists_bool]))
    refine AW.cond rfl (fun h => ?_) (fun h => ?_)
    · repeat (first | refine AW.seq ?_ | refine AW.block ?_ | (refine AW.reg mix ?_; simp (implicitDefEqProofs := false) [-Bool.exists_bool]; try simp (disch := omega) only [w64, wu64]) | (refine need.of (by first | omega | kernel_rfl) ?_) | (refine AW.fin ?_; try simp (implicitDefEqProofs := false) [-Bool.exists_bool]))
      refine CallS.pu (h1) ?_
      (try (simp (implicitDefEqProofs := false) [-Bool.exists_bool]; try simp (disch := omega) only [w64, wu64]))
      repeat (first | refine AW.seq ?_ | refine AW.block ?_ | (refine AW.reg mix ?_; simp (implicitDefEqProofs := false) [-Bool.exists_bool]; try simp (disch := omega) only [w64, wu64]) | (refine need.of (by first | omega | kernel_rfl) ?_) | (refine AW.fin ?_; try simp (implicitDefEqProofs := false) [-Bool.exists_bool]))
      refine CallS.pu (h2) ?_
      (try (simp (implicitDefEqProofs := false) [-Bool.exists_bool]; try simp (disch := omega) only [w64, wu64]))
      repeat (first | refine AW.seq ?_ | refine AW.block ?_ | (refine AW.reg mix ?_; simp (implicitDefEqProofs := false) [-Bool.exists_bool]; try simp (disch := omega) only [w64, wu64]) | (refine need.of (by first | omega | kernel_rfl) ?_) | (refine AW.fin ?_; try simp (implicitDefEqProofs := false) [-Bool.exists_bool]))
      refine CallS.o1 0 (h3) ?_
      (try (simp (implicitDefEqProofs := false) [-Bool.exists_bool]; try simp (disch := omega) only [w64, wu64]))
      repeat (first | refine AW.seq ?_ | refine AW.block ?_ | (refine AW.reg mix ?_; simp (implicitDefEqProofs := false) [-Bool.exists_bool]; try simp (disch := omega) only [w64, wu64]) | (refine need.of (by first | omega | kernel_rfl) ?_) | (refine AW.fin ?_; try simp (implicitDefEqProofs := false) [-Bool.exists_bool]))
      refine CallS.pu (h4 Y T F) ?_
      (try (simp (implicitDefEqProofs := false) [-Bool.exists_bool]; try simp (disch := omega) only [w64, wu64]))
      repeat (first | refine AW.seq ?_ | refine AW.block ?_ | (refine AW.reg mix ?_; simp (implicitDefEqProofs := false) [-Bool.exists_bool]; try simp (disch := omega) only [w64, wu64]) | (refine need.of (by first | omega | kernel_rfl) ?_) | (refine AW.fin ?_; try simp (implicitDefEqProofs := false) [-Bool.exists_bool]))
    · simp at h
  · rcases h with ⟨rfl, -⟩ | ⟨-, h⟩
    · exact absurd rfl hk
    rw [addRM, if_neg hk] at hR
    have h1 := rchain_ok k a b
    have h2 := rlink_ok y 0 f
    have h3 := addC_int h cs hc y hy f n m hmx hn p d hp _ rfl
    have hk' : ¬ (k : Int) = 4 := by omega
    generalize addL (stOf cs k a) (2 ^ b - 1) n y f p d = S at *
    subst hR
    obtain ⟨e, sx, sf, sp, sd⟩ := S
    have h4 : ∀ y f, _ := rlinked_ok
    simp only [c_reg_Param_Add, parD, tsD, stR] at hwr h1 h2 h3 ⊢
    obtain ⟨Y, F, hS1, hS2, hS⟩ : ∃ (Y : Nat) (F : Bool), (if e = 0 then sx else y) = Y ∧ (if e = 0 then sf else f) = F ∧ (if e = 0 then D.agg [.int .i64 sx, .int .i64 (0 : Nat), .bool sf] else D.agg [.int .i64 y, .int .i64 (0 : Nat), .bool f]) = D.agg [.int .i64 Y, .int .i64 0, .bool F] := by
      by_cases he : e = 0
      · simp only [if_pos he]; exact ⟨sx, sf, rfl, rfl, rfl⟩
      · simp only [if_neg he]; exact ⟨y, f, rfl, rfl, rfl⟩
    rw [hS1, hS2] at h3
    rw [hS]
    simp only [Int.natCast_zero, show ((0 : Nat) : Int) = 0 by rfl] at hwr
    repeat (first | refine AW.seq ?_ | refine AW.block ?_ | (refine AW.reg mix ?_; simp (implicitDefEqProofs := false) [-Bool.exists_bool]; try simp (disch := omega) only [w64, wu64]) | (refine need.of (by first | omega | kernel_rfl) ?_) | (refine AW.fin ?_; try simp (implicitDefEqProofs := false) [-Bool.exists_bool]))
    refine CallS.pf 4 3 ⟨36, _⟩ [.int .i64 y, .int .i64 0, .bool f] (hwr) (by first | rfl | (simp [-Bool.exists_bool]; done)) ?_
    (try (simp (implicitDefEqProofs := false) [-Bool.exists_bool]; try simp (disch := omega) only [w64, wu64]))
    repeat (first | refine AW.seq ?_ | refine AW.block ?_ | (refine AW.reg mix ?_; simp (implicitDefEqProofs := false) [-Bool.exists_bool]; try simp (disch := omega) only [w64, wu64]) | (refine need.of (by first | omega | kernel_rfl) ?_) | (refine AW.fin ?_; try simp (implicitDefEqProofs := false) [-Bool.exists_bool]))
    refine AW.cond rfl (fun h => ?_) (fun h => ?_)
    · simp at h
    repeat (first | refine AW.seq ?_ | refine AW.block ?_ | (refine AW.reg mix ?_; simp (implicitDefEqProofs := false) [hk, hk', -Bool.exists_bool]; try simp (disch := omega) only [w64, wu64]) | (refine need.of (by first | omega | kernel_rfl) ?_) | (refine AW.fin ?_; try simp (implicitDefEqProofs := false) [hk, hk', -Bool.exists_bool]))
    refine AW.cond rfl (fun h => ?_) (fun h => ?_)
    · simp [hk'] at h
    · repeat (first | refine AW.seq ?_ | refine AW.block ?_ | (refine AW.reg mix ?_; simp (implicitDefEqProofs := false) [-Bool.exists_bool]; try simp (disch := omega) only [w64, wu64]) | (refine need.of (by first | omega | kernel_rfl) ?_) | (refine AW.fin ?_; try simp (implicitDefEqProofs := false) [-Bool.exists_bool]))
      refine CallS.pu (h1) ?_
      (try (simp (implicitDefEqProofs := false) [-Bool.exists_bool]; try simp (disch := omega) only [w64, wu64]))
      repeat (first | refine AW.seq ?_ | refine AW.block ?_ | (refine AW.reg mix ?_; simp (implicitDefEqProofs := false) [-Bool.exists_bool]; try simp (disch := omega) only [w64, wu64]) | (refine need.of (by first | omega | kernel_rfl) ?_) | (refine AW.fin ?_; try simp (implicitDefEqProofs := false) [-Bool.exists_bool]))
      refine CallS.pu (h2) ?_
      (try (simp (implicitDefEqProofs := false) [-Bool.exists_bool]; try simp (disch := omega) only [w64, wu64]))
      repeat (first | refine AW.seq ?_ | refine AW.block ?_ | (refine AW.reg mix ?_; simp (implicitDefEqProofs := false) [-Bool.exists_bool]; try simp (disch := omega) only [w64, wu64]) | (refine need.of (by first | omega | kernel_rfl) ?_) | (refine AW.fin ?_; try simp (implicitDefEqProofs := false) [-Bool.exists_bool]))
      refine CallS.o1 0 (h3) ?_
      (try (simp (implicitDefEqProofs := false) [-Bool.exists_bool]; try simp (disch := omega) only [w64, wu64]))
      repeat (first | refine AW.seq ?_ | refine AW.block ?_ | (refine AW.reg mix ?_; simp (implicitDefEqProofs := false) [-Bool.exists_bool]; try simp (disch := omega) only [w64, wu64]) | (refine need.of (by first | omega | kernel_rfl) ?_) | (refine AW.fin ?_; try simp (implicitDefEqProofs := false) [-Bool.exists_bool]))
      refine CallS.pu (h4 Y F) ?_
      (try (simp (implicitDefEqProofs := false) [-Bool.exists_bool]; try simp (disch := omega) only [w64, wu64]))
      repeat (first | refine AW.seq ?_ | refine AW.block ?_ | (refine AW.reg mix ?_; simp (implicitDefEqProofs := false) [-Bool.exists_bool]; try simp (disch := omega) only [w64, wu64]) | (refine need.of (by first | omega | kernel_rfl) ?_) | (refine AW.fin ?_; try simp (implicitDefEqProofs := false) [-Bool.exists_bool]))
end
end Go.Proofs.YtdbfenhaljmbfaaGreat.Am
namespace Go.Proofs.YtdbfenhaljmbfaaGreat.Am
section
set_option linter.unusedVariables false
set_option linter.unusedSimpArgs false
open Go.RowKit
set_option maxRecDepth 100000
set_option linter.unusedSimpArgs false
set_option linter.unusedVariables false

/-- widths of the two numbers -/
def kwR (k a b : Nat) : Nat := if k = 4 then bitsN a else b
def twR (k b : Nat) : Nat := if k = 4 then bitsN b else 0
theorem kwR_pos {k a b : Nat} (h : GoodR k a b) : 0 < kwR k a b ∧ kwR k a b ≤ 10 := by
  unfold kwR
  rcases h with ⟨rfl, h⟩ | ⟨hk, h⟩
  · rw [if_pos rfl]
    refine ⟨?_, bitsN_le (by have := h.2.1; omega)⟩
    unfold bitsN; rw [if_neg (by have := h.1; omega)]; omega
  · rw [if_neg hk]; exact ⟨h.2.1, h.2.2⟩
theorem twR_le {k a b : Nat} (h : GoodR k a b) : twR k b ≤ 5 := by
  unfold twR
  rcases h with ⟨rfl, h⟩ | ⟨hk, h⟩
  · rw [if_pos rfl]; exact bitsN_le (by have := h.2.2; omega)
  · rw [if_neg hk]; omega
theorem well_fits {k a b y t : Nat} {f : Bool} (hg : GoodR k a b) (h : WellR k a b y t f) : y < 2 ^ kwR k a b ∧ t < 2 ^ twR k b := by
  unfold kwR twR
  rcases h with ⟨rfl, h1, h2, -⟩ | ⟨hk, rfl, h1, -⟩
  · rw [if_pos rfl, if_pos rfl]
    exact ⟨Nat.lt_of_le_of_lt h1 (lt_bitsN a), Nat.lt_of_le_of_lt h2 (lt_bitsN b)⟩
  · rw [if_neg hk, if_neg hk]
    have := Nat.two_pow_pos b
    omega

theorem mlen_ok (x : Nat) (hx : x < 18446744073709551616) : Eqn Tryz.prog n_math_bits_Len [.d (.int .u64 x)] [] (.d (.int .i64 (bitsN x))) [] := by
  refine Eqn.pure r_math_bits_Len Plain.ok ?_
  have hl := len64_ok x hx
  simp only [c_math_bits_Len]
  repeat (first | refine AW.seq ?_ | refine AW.block ?_ | (refine AW.reg mix ?_; simp (implicitDefEqProofs := false); try simp (disch := omega) only [w64, wu64]) | (refine need.of (by first | omega | kernel_rfl) ?_) | (refine AW.fin ?_; try simp (implicitDefEqProofs := false)))
  refine AW.cond rfl (fun h => ?_) (fun h => ?_)
  · simp at h
  · repeat (first | refine AW.seq ?_ | refine AW.block ?_ | (refine AW.reg mix ?_; simp (implicitDefEqProofs := false); try simp (disch := omega) only [w64, wu64]) | (refine need.of (by first | omega | kernel_rfl) ?_) | (refine AW.fin ?_; try simp (implicitDefEqProofs := false)))
    refine CallS.pu (hl) ?_
    (try (simp (implicitDefEqProofs := false); try simp (disch := omega) only [w64, wu64]))
    repeat (first | refine AW.seq ?_ | refine AW.block ?_ | (refine AW.reg mix ?_; simp (implicitDefEqProofs := false); try simp (disch := omega) only [w64, wu64]) | (refine need.of (by first | omega | kernel_rfl) ?_) | (refine AW.fin ?_; try simp (implicitDefEqProofs := false)))

theorem widths_ok {k a b : Nat} (h : GoodR k a b) : Eqn Tryz.prog n_reg_Param_widths [.d (parD k a b)] [] (.tup [.d (.int .i64 (kwR k a b)), .d (.int .i64 (twR k b))]) [] := by
  refine Eqn.pure r_reg_Param_widths Plain.ok ?_
  unfold kwR twR
  rcases h with ⟨rfl, h⟩ | ⟨hk, h⟩
  · rw [if_pos rfl, if_pos rfl]
    have h1 := mlen_ok a (by have := h.2.1; omega)
    have h2 := mlen_ok b (by have := h.2.2; omega)
    have e1 : IntKind.u64.wrap (a : Int) = a := wu64 (by omega) (by have := h.2.1; omega)
    have e2 : IntKind.u64.wrap (b : Int) = b := wu64 (by omega) (by have := h.2.2; omega)
    simp only [c_reg_Param_widths, parD]
    repeat (first | refine AW.seq ?_ | refine AW.block ?_ | (refine AW.reg mix ?_; simp (implicitDefEqProofs := false); try simp (disch := omega) only [w64, wu64]) | (refine need.of (by first | omega | kernel_rfl) ?_) | (refine AW.fin ?_; try simp (implicitDefEqProofs := false)))
    refine AW.cond rfl (fun h => ?_) (fun h => ?_)
    · repeat (first | refine AW.seq ?_ | refine AW.block ?_ | (refine AW.reg mix ?_; simp (implicitDefEqProofs := false) [e1, e2]; try simp (disch := omega) only [w64, wu64]) | (refine need.of (by first | omega | kernel_rfl) ?_) | (refine AW.fin ?_; try simp (implicitDefEqProofs := false) [e1, e2]))
      refine CallS.pu (h1) ?_
      (try (simp (implicitDefEqProofs := false) [e1, e2]; try simp (disch := omega) only [w64, wu64]))
      repeat (first | refine AW.seq ?_ | refine AW.block ?_ | (refine AW.reg mix ?_; simp (implicitDefEqProofs := false) [e1, e2]; try simp (disch := omega) only [w64, wu64]) | (refine need.of (by first | omega | kernel_rfl) ?_) | (refine AW.fin ?_; try simp (implicitDefEqProofs := false) [e1, e2]))
      refine CallS.pu (h2) ?_
      (try (simp (implicitDefEqProofs := false); try simp (disch := omega) only [w64, wu64]))
      repeat (first | refine AW.seq ?_ | refine AW.block ?_ | (refine AW.reg mix ?_; simp (implicitDefEqProofs := false); try simp (disch := omega) only [w64, wu64]) | (refine need.of (by first | omega | kernel_rfl) ?_) | (refine AW.fin ?_; try simp (implicitDefEqProofs := false)))
    · simp at h
  · rw [if_neg hk, if_neg hk]
    have hk' : ¬ (k : Int) = 4 := by omega
    simp only [c_reg_Param_widths, parD]
    repeat (first | refine AW.seq ?_ | refine AW.block ?_ | (refine AW.reg mix ?_; simp (implicitDefEqProofs := false) [hk, hk']; try simp (disch := omega) only [w64, wu64]) | (refine need.of (by first | omega | kernel_rfl) ?_) | (refine AW.fin ?_; try simp (implicitDefEqProofs := false) [hk, hk']))
    refine AW.cond rfl (fun h => ?_) (fun h => ?_)
    · simp [hk'] at h
    · repeat (first | refine AW.seq ?_ | refine AW.block ?_ | (refine AW.reg mix ?_; simp (implicitDefEqProofs := false); try simp (disch := omega) only [w64, wu64]) | (refine need.of (by first | omega | kernel_rfl) ?_) | (refine AW.fin ?_; try simp (implicitDefEqProofs := false)))

theorem rbits_ok {k a b : Nat} (h : GoodR k a b) : Eqn Tryz.prog n_reg_Param_Bits [.d (parD k a b)] [] (.d (.int .i64 (kwR k a b + twR k b + 1 : Nat))) [] := by
  refine Eqn.pure r_reg_Param_Bits Plain.ok ?_
  have h1 := rcheck_ok h
  have h2 := widths_ok h
  have b1 := (kwR_pos h).2
  have b2 := twR_le h
  simp only [c_reg_Param_Bits, parD] at h1 h2 ⊢
  generalize kwR k a b = K at *
  generalize twR k b = T at *
  have e1 : IntKind.i64.wrap ((K : Int) + T) = (K : Int) + T := w64 (by omega) (by omega)
  have e2 : IntKind.i64.wrap ((K : Int) + T + 1) = (K : Int) + T + 1 := w64 (by omega) (by omega)
  repeat (first | refine AW.seq ?_ | refine AW.block ?_ | (refine AW.reg mix ?_; simp (implicitDefEqProofs := false); try simp (disch := omega) only [w64, wu64]) | (refine need.of (by first | omega | kernel_rfl) ?_) | (refine AW.fin ?_; try simp (implicitDefEqProofs := false)))
  refine CallS.pu (h1) ?_
  (try (simp (implicitDefEqProofs := false); try simp (disch := omega) only [w64, wu64]))
  repeat (first | refine AW.seq ?_ | refine AW.block ?_ | (refine AW.reg mix ?_; simp (implicitDefEqProofs := false); try simp (disch := omega) only [w64, wu64]) | (refine need.of (by first | omega | kernel_rfl) ?_) | (refine AW.fin ?_; try simp (implicitDefEqProofs := false)))
  refine AW.cond rfl (fun h => ?_) (fun h => ?_)
  · simp at h
  repeat (first | refine AW.seq ?_ | refine AW.block ?_ | (refine AW.reg mix ?_; simp (implicitDefEqProofs := false); try simp (disch := omega) only [w64, wu64]) | (refine need.of (by first | omega | kernel_rfl) ?_) | (refine AW.fin ?_; try simp (implicitDefEqProofs := false)))
  refine CallS.pu (h2) ?_
  (try (simp (implicitDefEqProofs := false) [e1, e2]; try simp (disch := omega) only [w64, wu64]))
  repeat (first | refine AW.seq ?_ | refine AW.block ?_ | (refine AW.reg mix ?_; simp (implicitDefEqProofs := false) [e1, e2]; try simp (disch := omega) only [w64, wu64]) | (refine need.of (by first | omega | kernel_rfl) ?_) | (refine AW.fin ?_; try simp (implicitDefEqProofs := false) [e1, e2]))

/-- a register's bits -/
def encR (k a b y t : Nat) (f : Bool) : List Bool := bitsW y (kwR k a b) ++ bitsW t (twR k b) ++ [f]
theorem encR_len (k a b y t : Nat) (f : Bool) : (encR k a b y t f).length = kwR k a b + twR k b + 1 := by simp [encR]; omega

theorem rwrite0_ok {k a b y t : Nat} {f : Bool} (h : GoodR k a b) (hw : WellR k a b y t f) : Eqn Tryz.prog n_reg_Param_Write [.d (parD k a b), .p 0 0, .d (tsD y t f)] [⟨138, [.d .nilsl, .d (.int .i64 0)]⟩] (.d (.int .i64 0)) [wrO 1 (encR k a b y t f), wrB (encR k a b y t f)] := by
  refine Eqn.gen [0, 6] r_reg_Param_Write (by simp) (by simp) (by rfl) (by decide) (by simp) (by simp [wrO, wrB]) ?_
  have hwr := rwrong1_ok h hw
  have h2 := widths_ok h
  have hkp := kwR_pos h
  have htl := twR_le h
  have hfit := well_fits h hw
  have h2k : 2 ^ kwR k a b ≤ 2 ^ 10 := Nat.pow_le_pow_right (by omega) hkp.2
  have h2t : 2 ^ twR k b ≤ 2 ^ 5 := Nat.pow_le_pow_right (by omega) htl
  have h3 := wnum0_ok y (kwR k a b) hkp.1 (by omega) hfit.1 (by omega)
  have hne : bitsW y (kwR k a b) ≠ [] := fun he => by have := bitsW_len y (kwR k a b); rw [he] at this; simp at this; omega
  have h4 := wnum_ok (bitsW y (kwR k a b)) t (twR k b) hne (by rw [bitsW_len]; omega) (by omega) hfit.2 (by omega)
  have h5 := wbit_ok (bitsW y (kwR k a b) ++ bitsW t (twR k b)) f (fun he => hne (List.append_eq_nil_iff.1 he).1) (by rw [List.length_append, bitsW_len, bitsW_len]; omega)
  have e1 : IntKind.u64.wrap (y : Int) = y := wu64 (by omega) (by omega)
  have e2 : IntKind.u64.wrap (t : Int) = t := wu64 (by omega) (by omega)
  simp only [c_reg_Param_Write, parD, tsD, encR] at hwr h2 ⊢
  generalize bitsW y (kwR k a b) = X1 at *
  generalize X1 ++ bitsW t (twR k b) = X2 at *
  generalize hX3 : X2 ++ [f] = X3 at *
  generalize kwR k a b = K at *
  generalize twR k b = T at *
  simp only [wrO, wrB] at h3 h4 h5 ⊢
  repeat (first | refine AW.seq ?_ | refine AW.block ?_ | (refine AW.reg mix ?_; simp (implicitDefEqProofs := false); try simp (disch := omega) only [w64, wu64]) | (refine need.of (by first | omega | kernel_rfl) ?_) | (refine AW.fin ?_; try simp (implicitDefEqProofs := false)))
  refine CallS.pf 3 3 ⟨36, _⟩ [.int .i64 y, .int .i64 t, .bool f] (hwr) (by first | rfl | (simp; done)) ?_
  (try (simp (implicitDefEqProofs := false); try simp (disch := omega) only [w64, wu64]))
  repeat (first | refine AW.seq ?_ | refine AW.block ?_ | (refine AW.reg mix ?_; simp (implicitDefEqProofs := false); try simp (disch := omega) only [w64, wu64]) | (refine need.of (by first | omega | kernel_rfl) ?_) | (refine AW.fin ?_; try simp (implicitDefEqProofs := false)))
  refine AW.cond rfl (fun h => ?_) (fun h => ?_)
  · simp at h
  repeat (first | refine AW.seq ?_ | refine AW.block ?_ | (refine AW.reg mix ?_; simp (implicitDefEqProofs := false); try simp (disch := omega) only [w64, wu64]) | (refine need.of (by first | omega | kernel_rfl) ?_) | (refine AW.fin ?_; try simp (implicitDefEqProofs := false)))
  refine CallS.pu (h2) ?_
  (try (simp (implicitDefEqProofs := false) [e1, e2]; try simp (disch := omega) only [w64, wu64]))
  repeat (first | refine AW.seq ?_ | refine AW.block ?_ | (refine AW.reg mix ?_; simp (implicitDefEqProofs := false) [e1, e2]; try simp (disch := omega) only [w64, wu64]) | (refine need.of (by first | omega | kernel_rfl) ?_) | (refine AW.fin ?_; try simp (implicitDefEqProofs := false) [e1, e2]))
  refine CallS.g [0] (h3) ?_
  (try (simp (implicitDefEqProofs := false) [e1, e2]; try simp (disch := omega) only [w64, wu64]))
  repeat (first | refine AW.seq ?_ | refine AW.block ?_ | (refine AW.reg mix ?_; simp (implicitDefEqProofs := false) [e1, e2]; try simp (disch := omega) only [w64, wu64]) | (refine need.of (by first | omega | kernel_rfl) ?_) | (refine AW.fin ?_; try simp (implicitDefEqProofs := false) [e1, e2]))
  refine CallS.g [0, 4] (h4) ?_
  (try (simp (implicitDefEqProofs := false) [e1, e2]; try simp (disch := omega) only [w64, wu64]))
  repeat (first | refine AW.seq ?_ | refine AW.block ?_ | (refine AW.reg mix ?_; simp (implicitDefEqProofs := false) [e1, e2]; try simp (disch := omega) only [w64, wu64]) | (refine need.of (by first | omega | kernel_rfl) ?_) | (refine AW.fin ?_; try simp (implicitDefEqProofs := false) [e1, e2]))
  refine CallS.g [0, 5] (h5) ?_
  (try (simp (implicitDefEqProofs := false) [e1, e2]; try simp (disch := omega) only [w64, wu64]))
  repeat (first | refine AW.seq ?_ | refine AW.block ?_ | (refine AW.reg mix ?_; simp (implicitDefEqProofs := false) [e1, e2]; try simp (disch := omega) only [w64, wu64]) | (refine need.of (by first | omega | kernel_rfl) ?_) | (refine AW.fin ?_; try simp (implicitDefEqProofs := false) [e1, e2]))

theorem rbit_ok (ws : List Nat) (a : Nat) (hs : smallB ws) (hn : ws.length ≤ 4000000) (h : a < 8 * ws.length) : Eqn Tryz.prog n_bits_Reader_Bit [.p 0 0] [rdO ws a] (.tup [.d (.bool ((bitsOf ws).getD a false)), .d (.int .i64 0)]) [rdO ws (a + 1)] := by
  refine Eqn.obj1 r_bits_Reader_Bit Plain.ok ⟨rfl, fun _ => rfl⟩ ?_
  have h1 := rnum_ok ws a 1 hs (by omega) hn (by omega)
  have h2 : numAt ws a 1 = b2n ((bitsOf ws).getD a false) := by
    have := numAt_succ ws a 0 (by omega)
    rw [numAt_zero] at this
    simpa using this
  rw [h2] at h1
  generalize (bitsOf ws).getD a false = b at *
  have hb : (((b2n b : Nat) : Int) == 1) = b := by cases b <;> rfl
  generalize b2n b = B at *
  simp only [c_bits_Reader_Bit, rdO] at h1 ⊢
  generalize a + 1 = a1 at *
  repeat (first | refine AW.seq ?_ | refine AW.block ?_ | (refine AW.reg mix ?_; simp (implicitDefEqProofs := false); try simp (disch := omega) only [w64, wu64]) | (refine need.of (by first | omega | kernel_rfl) ?_) | (refine AW.fin ?_; try simp (implicitDefEqProofs := false)))
  simp at h1
  refine CallS.o1 0 (h1) ?_
  (try (simp (implicitDefEqProofs := false) [hb]; try simp (disch := omega) only [w64, wu64]))
  repeat (first | refine AW.seq ?_ | refine AW.block ?_ | (refine AW.reg mix ?_; simp (implicitDefEqProofs := false) [hb]; try simp (disch := omega) only [w64, wu64]) | (refine need.of (by first | omega | kernel_rfl) ?_) | (refine AW.fin ?_; try simp (implicitDefEqProofs := false) [hb]))

/-- what is read: state, error, the place behind -/
def readR (ws : List Nat) (k a b at_ : Nat) : (Nat × Nat × Bool) × Int × Nat :=
  if 8 * ws.length - at_ < kwR k a b + twR k b + 1 then ((0, 0, false), 5, at_)
  else if wellRB k a b (numAt ws at_ (kwR k a b)) (numAt ws (at_ + kwR k a b) (twR k b)) ((bitsOf ws).getD (at_ + kwR k a b + twR k b) false) then ((numAt ws at_ (kwR k a b), numAt ws (at_ + kwR k a b) (twR k b), (bitsOf ws).getD (at_ + kwR k a b + twR k b) false), 0, at_ + kwR k a b + twR k b + 1)
  else ((0, 0, false), 4, at_ + kwR k a b + twR k b + 1)

theorem rread_ok (ws : List Nat) {k a b : Nat} (at_ : Nat) (h : GoodR k a b) (hs : smallB ws) (hn : ws.length ≤ 400000) (hat : at_ ≤ 8 * ws.length) (R : (Nat × Nat × Bool) × Int × Nat) (hR : R = readR ws k a b at_) :
    Eqn Tryz.prog n_reg_Param_Read [.d (parD k a b), .p 0 0] [rdO ws at_] (.tup [.d (tsD R.1.1 R.1.2.1 R.1.2.2), .d (.int .i64 R.2.1)]) [rdO ws R.2.2] := by
  refine Eqn.obj1 r_reg_Param_Read Plain.ok ⟨rfl, fun _ => rfl⟩ ?_
  have hc := rcheck_ok h
  have hb := rbits_ok h
  have hl := rleft_ok ws at_ (by omega) hat
  have h2 := widths_ok h
  have hkp := kwR_pos h
  have htl := twR_le h
  unfold readR at hR
  by_cases hend : 8 * ws.length - at_ < kwR k a b + twR k b + 1
  · rw [if_pos hend] at hR
    subst hR
    have hi : ((8 * ws.length - at_ : Nat) : Int) < (kwR k a b + twR k b + 1 : Nat) := by omega
    simp only [c_reg_Param_Read, parD, tsD, rdO] at hc hb hl ⊢
    generalize kwR k a b + twR k b + 1 = N at *
    generalize 8 * ws.length - at_ = L at *
    repeat (first | refine AW.seq ?_ | refine AW.block ?_ | (refine AW.reg mix ?_; simp (implicitDefEqProofs := false); try simp (disch := omega) only [w64, wu64]) | (refine need.of (by first | omega | kernel_rfl) ?_) | (refine AW.fin ?_; try simp (implicitDefEqProofs := false)))
    refine CallS.pu (hc) ?_
    (try (simp (implicitDefEqProofs := false); try simp (disch := omega) only [w64, wu64]))
    repeat (first | refine AW.seq ?_ | refine AW.block ?_ | (refine AW.reg mix ?_; simp (implicitDefEqProofs := false); try simp (disch := omega) only [w64, wu64]) | (refine need.of (by first | omega | kernel_rfl) ?_) | (refine AW.fin ?_; try simp (implicitDefEqProofs := false)))
    refine AW.cond rfl (fun h => ?_) (fun h => ?_)
    · simp at h
    repeat (first | refine AW.seq ?_ | refine AW.block ?_ | (refine AW.reg mix ?_; simp (implicitDefEqProofs := false); try simp (disch := omega) only [w64, wu64]) | (refine need.of (by first | omega | kernel_rfl) ?_) | (refine AW.fin ?_; try simp (implicitDefEqProofs := false)))
    refine CallS.o1 0 (hl) ?_
    (try (simp (implicitDefEqProofs := false); try simp (disch := omega) only [w64, wu64]))
    repeat (first | refine AW.seq ?_ | refine AW.block ?_ | (refine AW.reg mix ?_; simp (implicitDefEqProofs := false); try simp (disch := omega) only [w64, wu64]) | (refine need.of (by first | omega | kernel_rfl) ?_) | (refine AW.fin ?_; try simp (implicitDefEqProofs := false)))
    refine CallS.pu (hb) ?_
    (try (simp (implicitDefEqProofs := false) [hi, hend]; try simp (disch := omega) only [w64, wu64]))
    repeat (first | refine AW.seq ?_ | refine AW.block ?_ | (refine AW.reg mix ?_; simp (implicitDefEqProofs := false) [hi, hend]; try simp (disch := omega) only [w64, wu64]) | (refine need.of (by first | omega | kernel_rfl) ?_) | (refine AW.fin ?_; try simp (implicitDefEqProofs := false) [hi, hend]))
    refine AW.cond rfl (fun h => ?_) (fun h => ?_)
    · repeat (first | refine AW.seq ?_ | refine AW.block ?_ | (refine AW.reg mix ?_; simp (implicitDefEqProofs := false); try simp (disch := omega) only [w64, wu64]) | (refine need.of (by first | omega | kernel_rfl) ?_) | (refine AW.fin ?_; try simp (implicitDefEqProofs := false)))
    · simp [hend] at h
  · rw [if_neg hend] at hR
    have n1 := rnum_ok ws at_ (kwR k a b) hs (by omega) (by omega) (by omega)
    have n2 := rnum_ok ws (at_ + kwR k a b) (twR k b) hs (by omega) (by omega) (by omega)
    have n3 := rbit_ok ws (at_ + kwR k a b + twR k b) hs (by omega) (by omega)
    have lt1 := numAt_lt ws at_ (kwR k a b)
    have lt2 := numAt_lt ws (at_ + kwR k a b) (twR k b)
    have h2k : 2 ^ kwR k a b ≤ 2 ^ 10 := Nat.pow_le_pow_right (by omega) hkp.2
    have h2t : 2 ^ twR k b ≤ 2 ^ 5 := Nat.pow_le_pow_right (by omega) htl
    have hi : ¬ ((8 * ws.length - at_ : Nat) : Int) < (kwR k a b + twR k b + 1 : Nat) := by omega
    have hwl := rwell_ok h (numAt ws at_ (kwR k a b)) (numAt ws (at_ + kwR k a b) (twR k b)) ((bitsOf ws).getD (at_ + kwR k a b + twR k b) false)
    generalize numAt ws at_ (kwR k a b) = Y at *
    generalize numAt ws (at_ + kwR k a b) (twR k b) = T at *
    generalize (bitsOf ws).getD (at_ + kwR k a b + twR k b) false = F at *
    generalize hW : wellRB k a b Y T F = W at *
    have e1 : IntKind.i64.wrap (Y : Int) = Y := w64 (by omega) (by omega)
    have e2 : IntKind.i64.wrap (T : Int) = T := w64 (by omega) (by omega)
    simp only [c_reg_Param_Read, parD, tsD, rdO] at hc hb hl h2 n1 n2 n3 hwl ⊢
    generalize at_ + kwR k a b + twR k b + 1 = a3 at *
    generalize at_ + kwR k a b + twR k b = a2 at *
    generalize at_ + kwR k a b = a1 at *
    generalize kwR k a b + twR k b + 1 = N at *
    generalize kwR k a b = K at *
    generalize twR k b = TT at *
    generalize 8 * ws.length - at_ = L at *
    repeat (first | refine AW.seq ?_ | refine AW.block ?_ | (refine AW.reg mix ?_; simp (implicitDefEqProofs := false); try simp (disch := omega) only [w64, wu64]) | (refine need.of (by first | omega | kernel_rfl) ?_) | (refine AW.fin ?_; try simp (implicitDefEqProofs := false)))
    refine CallS.pu (hc) ?_
    (try (simp (implicitDefEqProofs := false); try simp (disch := omega) only [w64, wu64]))
    repeat (first | refine AW.seq ?_ | refine AW.block ?_ | (refine AW.reg mix ?_; simp (implicitDefEqProofs := false); try simp (disch := omega) only [w64, wu64]) | (refine need.of (by first | omega | kernel_rfl) ?_) | (refine AW.fin ?_; try simp (implicitDefEqProofs := false)))
    refine AW.cond rfl (fun h => ?_) (fun h => ?_)
    · simp at h
    repeat (first | refine AW.seq ?_ | refine AW.block ?_ | (refine AW.reg mix ?_; simp (implicitDefEqProofs := false); try simp (disch := omega) only [w64, wu64]) | (refine need.of (by first | omega | kernel_rfl) ?_) | (refine AW.fin ?_; try simp (implicitDefEqProofs := false)))
    refine CallS.o1 0 (hl) ?_
    (try (simp (implicitDefEqProofs := false); try simp (disch := omega) only [w64, wu64]))
    repeat (first | refine AW.seq ?_ | refine AW.block ?_ | (refine AW.reg mix ?_; simp (implicitDefEqProofs := false); try simp (disch := omega) only [w64, wu64]) | (refine need.of (by first | omega | kernel_rfl) ?_) | (refine AW.fin ?_; try simp (implicitDefEqProofs := false)))
    refine CallS.pu (hb) ?_
    (try (simp (implicitDefEqProofs := false) [hi, hend]; try simp (disch := omega) only [w64, wu64]))
    repeat (first | refine AW.seq ?_ | refine AW.block ?_ | (refine AW.reg mix ?_; simp (implicitDefEqProofs := false) [hi, hend]; try simp (disch := omega) only [w64, wu64]) | (refine need.of (by first | omega | kernel_rfl) ?_) | (refine AW.fin ?_; try simp (implicitDefEqProofs := false) [hi, hend]))
    refine AW.cond rfl (fun h => ?_) (fun h => ?_)
    · simp [hend] at h
    repeat (first | refine AW.seq ?_ | refine AW.block ?_ | (refine AW.reg mix ?_; simp (implicitDefEqProofs := false); try simp (disch := omega) only [w64, wu64]) | (refine need.of (by first | omega | kernel_rfl) ?_) | (refine AW.fin ?_; try simp (implicitDefEqProofs := false)))
    refine CallS.pu (h2) ?_
    (try (simp (implicitDefEqProofs := false); try simp (disch := omega) only [w64, wu64]))
    repeat (first | refine AW.seq ?_ | refine AW.block ?_ | (refine AW.reg mix ?_; simp (implicitDefEqProofs := false); try simp (disch := omega) only [w64, wu64]) | (refine need.of (by first | omega | kernel_rfl) ?_) | (refine AW.fin ?_; try simp (implicitDefEqProofs := false)))
    refine CallS.o1 0 (n1) ?_
    (try (simp (implicitDefEqProofs := false); try simp (disch := omega) only [w64, wu64]))
    repeat (first | refine AW.seq ?_ | refine AW.block ?_ | (refine AW.reg mix ?_; simp (implicitDefEqProofs := false); try simp (disch := omega) only [w64, wu64]) | (refine need.of (by first | omega | kernel_rfl) ?_) | (refine AW.fin ?_; try simp (implicitDefEqProofs := false)))
    refine CallS.o1 0 (n2) ?_
    (try (simp (implicitDefEqProofs := false); try simp (disch := omega) only [w64, wu64]))
    repeat (first | refine AW.seq ?_ | refine AW.block ?_ | (refine AW.reg mix ?_; simp (implicitDefEqProofs := false); try simp (disch := omega) only [w64, wu64]) | (refine need.of (by first | omega | kernel_rfl) ?_) | (refine AW.fin ?_; try simp (implicitDefEqProofs := false)))
    refine CallS.o1 0 (n3) ?_
    (try (simp (implicitDefEqProofs := false) [e1, e2]; try simp (disch := omega) only [w64, wu64]))
    repeat (first | refine AW.seq ?_ | refine AW.block ?_ | (refine AW.reg mix ?_; simp (implicitDefEqProofs := false) [e1, e2]; try simp (disch := omega) only [w64, wu64]) | (refine need.of (by first | omega | kernel_rfl) ?_) | (refine AW.fin ?_; try simp (implicitDefEqProofs := false) [e1, e2]))
    refine CallS.pu (hwl) ?_
    (try (simp (implicitDefEqProofs := false); try simp (disch := omega) only [w64, wu64]))
    repeat (first | refine AW.seq ?_ | refine AW.block ?_ | (refine AW.reg mix ?_; simp (implicitDefEqProofs := false); try simp (disch := omega) only [w64, wu64]) | (refine need.of (by first | omega | kernel_rfl) ?_) | (refine AW.fin ?_; try simp (implicitDefEqProofs := false)))
    cases W with
    | true =>
      rw [if_pos rfl] at hR
      subst hR
      refine AW.cond rfl (fun h => ?_) (fun h => ?_)
      · simp at h
      · repeat (first | refine AW.seq ?_ | refine AW.block ?_ | (refine AW.reg mix ?_; simp (implicitDefEqProofs := false); try simp (disch := omega) only [w64, wu64]) | (refine need.of (by first | omega | kernel_rfl) ?_) | (refine AW.fin ?_; try simp (implicitDefEqProofs := false)))
    | false =>
      rw [if_neg (by simp)] at hR
      subst hR
      refine AW.cond rfl (fun h => ?_) (fun h => ?_)
      · repeat (first | refine AW.seq ?_ | refine AW.block ?_ | (refine AW.reg mix ?_; simp (implicitDefEqProofs := false); try simp (disch := omega) only [w64, wu64]) | (refine need.of (by first | omega | kernel_rfl) ?_) | (refine AW.fin ?_; try simp (implicitDefEqProofs := false)))
      · simp at h
end
end Go.Proofs.YtdbfenhaljmbfaaGreat.Am
namespace Go.Proofs.YtdbfenhaljmbfaaGreat.Am
section
set_option linter.unusedVariables false
set_option linter.unusedSimpArgs false
/-- a number of bits, the lowest first -/
def ofB (f : Nat → Bool) : Nat → Nat
  | 0 => 0
  | n + 1 => ofB f n + (if f n then 2 ^ n else 0)
theorem ofB_lt (f : Nat → Bool) : ∀ n, ofB f n < 2 ^ n
  | 0 => by simp [ofB]
  | n + 1 => by
    have := ofB_lt f n
    rw [ofB, Nat.pow_succ]
    split <;> omega
theorem ofB_bit (f : Nat → Bool) : ∀ n i, i < n → (ofB f n).testBit i = f i
  | 0, i, h => by omega
  | n + 1, i, h => by
    have hl := ofB_lt f n
    rw [ofB]
    by_cases hi : i = n
    · subst hi
      split
      · rename_i hf
        rw [Nat.add_comm, Nat.testBit_two_pow_add_eq, Nat.testBit_lt_two_pow hl, hf]; rfl
      · rename_i hf
        rw [Nat.add_zero, Nat.testBit_lt_two_pow hl]; simpa using hf
    · split
      · rw [Nat.add_comm, Nat.testBit_two_pow_add_gt (by omega), ofB_bit f n i (by omega)]
      · rw [Nat.add_zero, ofB_bit f n i (by omega)]
theorem ofB_ext {f g : Nat → Bool} : ∀ n, (∀ i, i < n → f i = g i) → ofB f n = ofB g n
  | 0, _ => rfl
  | n + 1, h => by rw [ofB, ofB, ofB_ext n (fun i hi => h i (by omega)), h n (by omega)]
/-- bits of numbers of one width, one behind the other -/
def bitX (w : Nat) (xs : List Nat) (k : Nat) : Bool := (xs.getD (k / w) 0).testBit (k % w)
def nwP (n w : Nat) : Nat := (n * w + 63) / 64
/-- words that hold them -/
def wordsP (w : Nat) (xs : List Nat) : List Nat := (List.range (nwP xs.length w)).map fun j => ofB (fun b => bitX w xs (64 * j + b)) 64
@[simp] theorem wordsP_len (w : Nat) (xs : List Nat) : (wordsP w xs).length = nwP xs.length w := by simp [wordsP]
theorem wordsP_get {w : Nat} {xs : List Nat} {j : Nat} (h : j < nwP xs.length w) : (wordsP w xs).getD j 0 = ofB (fun b => bitX w xs (64 * j + b)) 64 := by
  unfold wordsP; rw [List.getD_eq_getElem?_getD, List.getElem?_map, List.getElem?_range h]; rfl
theorem wordsP_lt {w : Nat} {xs : List Nat} (j : Nat) : (wordsP w xs).getD j 0 < 2 ^ 64 := by
  by_cases h : j < nwP xs.length w
  · rw [wordsP_get h]; exact ofB_lt _ _
  · rw [List.getD_eq_getElem?_getD, List.getElem?_eq_none (by simp; omega)]; simp
theorem wordsP_bit {w : Nat} {xs : List Nat} {j b : Nat} (h : j < nwP xs.length w) (hb : b < 64) : ((wordsP w xs).getD j 0).testBit b = bitX w xs (64 * j + b) := by rw [wordsP_get h, ofB_bit _ _ _ hb]
theorem bitX_at {w : Nat} {xs : List Nat} {i b : Nat} (hb : b < w) : bitX w xs (i * w + b) = (xs.getD i 0).testBit b := by
  unfold bitX
  rw [Nat.mul_comm, Nat.mul_add_div (by omega), Nat.div_eq_of_lt hb, Nat.add_zero, Nat.mul_add_mod, Nat.mod_eq_of_lt hb]
theorem bitX_set {w : Nat} {xs : List Nat} {i v k : Nat} (hw : 0 < w) (hi : i < xs.length) : bitX w (xs.set i v) k = if i * w ≤ k ∧ k < i * w + w then v.testBit (k - i * w) else bitX w xs k := by
  unfold bitX
  have e := Nat.div_add_mod k w
  have hm := Nat.mod_lt k hw
  rw [List.getD_eq_getElem?_getD, List.getD_eq_getElem?_getD, List.getElem?_set]
  by_cases h : i = k / w
  · subst h
    have e2 : k / w * w = w * (k / w) := Nat.mul_comm _ _
    rw [if_pos rfl, if_pos hi, if_pos (by omega), show k - k / w * w = k % w by omega]
    rfl
  · rw [if_neg h, if_neg]
    rintro ⟨h1, h2⟩
    apply h
    have h3 : i ≤ k / w := (Nat.le_div_iff_mul_le hw).2 h1
    have h4 : k / w < i + 1 := (Nat.div_lt_iff_lt_mul hw).2 (by rw [Nat.add_mul]; omega)
    omega

def smallP (w : Nat) (xs : List Nat) : Prop := ∀ x ∈ xs, x < 2 ^ w
theorem smallP_get {w : Nat} {xs : List Nat} (h : smallP w xs) (i : Nat) : xs.getD i 0 < 2 ^ w := by
  rw [List.getD_eq_getElem?_getD]
  cases hx : xs[i]? with
  | none => simp [Nat.two_pow_pos]
  | some x => exact h x (List.mem_of_getElem? hx)

theorem div_bit (x r b : Nat) : (x / 2 ^ r).testBit b = x.testBit (r + b) := by rw [Nat.testBit_div_two_pow, Nat.add_comm]
theorem shl_bit (x s b : Nat) : (x * 2 ^ s % 2 ^ 64).testBit b = (decide (b < 64) && (decide (s ≤ b) && x.testBit (b - s))) := by rw [Nat.testBit_mod_two_pow, Nat.testBit_mul_two_pow]
theorem mask_bit (w b : Nat) : (2 ^ w - 1).testBit b = decide (b < w) := Nat.testBit_two_pow_sub_one w b

/-- what is read, when it lies in one word -/
theorem pget1 {w : Nat} {xs : List Nat} {i : Nat} (hs : smallP w xs) (hw : w ≤ 32) (hi : i < xs.length) (hr : i * w % 64 + w ≤ 64) : (wordsP w xs).getD (i * w / 64) 0 / 2 ^ (i * w % 64) &&& (2 ^ w - 1) = xs.getD i 0 := by
  have e := Nat.div_add_mod (i * w) 64
  by_cases hw0 : w = 0
  · subst hw0
    have := smallP_get hs i
    simp at this ⊢; omega
  have hle : i * w + w ≤ xs.length * w := by rw [← Nat.succ_mul]; exact Nat.mul_le_mul_right w hi
  apply Nat.eq_of_testBit_eq
  intro b
  rw [Nat.testBit_and, mask_bit, div_bit]
  by_cases hb : b < w
  · rw [wordsP_bit (by unfold nwP; omega) (by omega), show 64 * (i * w / 64) + (i * w % 64 + b) = i * w + b by omega, bitX_at hb]
    simp [hb]
  · have : (xs.getD i 0).testBit b = false := Nat.testBit_lt_two_pow (Nat.lt_of_lt_of_le (smallP_get hs i) (Nat.pow_le_pow_right (by omega) (by omega)))
    rw [this]; simp [hb]
/-- in two words -/
theorem pget2 {w : Nat} {xs : List Nat} {i : Nat} (hs : smallP w xs) (hw : w ≤ 32) (hi : i < xs.length) (hr : 64 < i * w % 64 + w) : ((wordsP w xs).getD (i * w / 64) 0 / 2 ^ (i * w % 64) ||| (wordsP w xs).getD (i * w / 64 + 1) 0 * 2 ^ (64 - i * w % 64) % 2 ^ 64) &&& (2 ^ w - 1) = xs.getD i 0 := by
  have e := Nat.div_add_mod (i * w) 64
  have hle : i * w + w ≤ xs.length * w := by rw [← Nat.succ_mul]; exact Nat.mul_le_mul_right w hi
  apply Nat.eq_of_testBit_eq
  intro b
  rw [Nat.testBit_and, mask_bit, Nat.testBit_or, div_bit, shl_bit]
  by_cases hb : b < w
  · by_cases h64 : i * w % 64 + b < 64
    · rw [wordsP_bit (by unfold nwP; omega) h64, show 64 * (i * w / 64) + (i * w % 64 + b) = i * w + b by omega, bitX_at hb]
      have : ¬ 64 - i * w % 64 ≤ b := by omega
      simp [hb, this]
    · have h1 : ((wordsP w xs).getD (i * w / 64) 0).testBit (i * w % 64 + b) = false := Nat.testBit_lt_two_pow (Nat.lt_of_lt_of_le (wordsP_lt _) (Nat.pow_le_pow_right (by omega) (by omega)))
      rw [h1, wordsP_bit (j := i * w / 64 + 1) (by unfold nwP; omega) (by omega), show 64 * (i * w / 64 + 1) + (b - (64 - i * w % 64)) = i * w + b by omega, bitX_at hb]
      have h2 : 64 - i * w % 64 ≤ b := by omega
      have h3 : b < 64 := by omega
      simp [hb, h2, h3]
  · have : (xs.getD i 0).testBit b = false := Nat.testBit_lt_two_pow (Nat.lt_of_lt_of_le (smallP_get hs i) (Nat.pow_le_pow_right (by omega) (by omega)))
    rw [this]; simp [hb]

/-- bits taken out -/
def andN (x y : Nat) : Nat := x &&& (2 ^ 64 - 1 - y)
theorem andN_bit {x y : Nat} (hx : x < 2 ^ 64) (hy : y < 2 ^ 64) (b : Nat) : (andN x y).testBit b = (x.testBit b && !y.testBit b) := by
  unfold andN
  rw [Nat.testBit_and, Nat.sub_sub, Nat.add_comm 1 y, Nat.testBit_two_pow_sub_succ hy]
  by_cases hb : b < 64
  · simp [hb]
  · have : x.testBit b = false := Nat.testBit_lt_two_pow (Nat.lt_of_lt_of_le hx (Nat.pow_le_pow_right (by omega) (by omega)))
    simp [this]

theorem word_eq {x : Nat} {f : Nat → Bool} (hx : x < 2 ^ 64) (h : ∀ b, b < 64 → x.testBit b = f b) : x = ofB f 64 := by
  apply Nat.eq_of_testBit_eq
  intro b
  by_cases hb : b < 64
  · rw [h b hb, ofB_bit _ _ _ hb]
  · have h2 : 2 ^ 64 ≤ 2 ^ b := Nat.pow_le_pow_right (by omega) (by omega)
    rw [Nat.testBit_lt_two_pow (Nat.lt_of_lt_of_le hx h2), Nat.testBit_lt_two_pow (Nat.lt_of_lt_of_le (ofB_lt f 64) h2)]

/-- the first word -/
def setW1 (w : Nat) (x v r : Nat) : Nat := andN x ((2 ^ w - 1) * 2 ^ r % 2 ^ 64) ||| v * 2 ^ r % 2 ^ 64
/-- the second one -/
def setW2 (w : Nat) (x v s : Nat) : Nat := andN x ((2 ^ w - 1) / 2 ^ s) ||| v / 2 ^ s
theorem andN_lt {x y : Nat} (hx : x < 2 ^ 64) : andN x y < 2 ^ 64 := Nat.lt_of_le_of_lt Nat.and_le_left hx
theorem set_w1 {w : Nat} {xs : List Nat} {i v : Nat} (hw : w ≤ 32) (hw0 : 0 < w) (hi : i < xs.length) (hv : v < 2 ^ w) : setW1 w ((wordsP w xs).getD (i * w / 64) 0) v (i * w % 64) = (wordsP w (xs.set i v)).getD (i * w / 64) 0 := by
  have e := Nat.div_add_mod (i * w) 64
  have hle : i * w + w ≤ xs.length * w := by rw [← Nat.succ_mul]; exact Nat.mul_le_mul_right w hi
  have hm : i * w % 64 < 64 := Nat.mod_lt _ (by omega)
  rw [wordsP_get (xs := xs.set i v) (by simp only [List.length_set]; unfold nwP; omega)]
  apply word_eq
  · exact Nat.or_lt_two_pow (andN_lt (wordsP_lt _)) (Nat.mod_lt _ (by omega))
  · intro b hb
    unfold setW1
    rw [Nat.testBit_or, andN_bit (wordsP_lt _) (Nat.mod_lt _ (by omega)), shl_bit, shl_bit, mask_bit, wordsP_bit (by unfold nwP; omega) hb, bitX_set hw0 hi]
    by_cases h1 : i * w % 64 ≤ b
    · by_cases h2 : b < i * w % 64 + w
      · rw [if_pos (by omega), show 64 * (i * w / 64) + b - i * w = b - i * w % 64 by omega]
        have h3 : b - i * w % 64 < w := by omega
        simp [hb, h1, h3]
      · rw [if_neg (by omega)]
        have h3 : ¬ b - i * w % 64 < w := by omega
        have h4 : v.testBit (b - i * w % 64) = false := Nat.testBit_lt_two_pow (Nat.lt_of_lt_of_le hv (Nat.pow_le_pow_right (by omega) (by omega)))
        simp [hb, h1, h3, h4]
    · rw [if_neg (by omega)]
      simp [hb, h1]
theorem set_w2 {w : Nat} {xs : List Nat} {i v : Nat} (hw : w ≤ 32) (hi : i < xs.length) (hv : v < 2 ^ w) (hr : 64 < i * w % 64 + w) : setW2 w ((wordsP w xs).getD (i * w / 64 + 1) 0) v (64 - i * w % 64) = (wordsP w (xs.set i v)).getD (i * w / 64 + 1) 0 := by
  have e := Nat.div_add_mod (i * w) 64
  have hle : i * w + w ≤ xs.length * w := by rw [← Nat.succ_mul]; exact Nat.mul_le_mul_right w hi
  have hm : i * w % 64 < 64 := Nat.mod_lt _ (by omega)
  have h32 : 2 ^ w ≤ 2 ^ 32 := Nat.pow_le_pow_right (by omega) hw
  have hv64 : v / 2 ^ (64 - i * w % 64) < 2 ^ 64 := Nat.lt_of_le_of_lt (Nat.div_le_self _ _) (by omega)
  have hm64 : (2 ^ w - 1) / 2 ^ (64 - i * w % 64) < 2 ^ 64 := Nat.lt_of_le_of_lt (Nat.div_le_self _ _) (by omega)
  rw [wordsP_get (xs := xs.set i v) (by simp only [List.length_set]; unfold nwP; omega)]
  apply word_eq
  · exact Nat.or_lt_two_pow (andN_lt (wordsP_lt _)) hv64
  · intro b hb
    unfold setW2
    rw [Nat.testBit_or, andN_bit (wordsP_lt _) hm64, div_bit, div_bit, mask_bit, wordsP_bit (by unfold nwP; omega) hb, bitX_set (by omega) hi]
    by_cases h2 : 64 - i * w % 64 + b < w
    · rw [if_pos (by omega), show 64 * (i * w / 64 + 1) + b - i * w = 64 - i * w % 64 + b by omega]
      simp [h2]
    · rw [if_neg (by omega)]
      have h4 : v.testBit (64 - i * w % 64 + b) = false := Nat.testBit_lt_two_pow (Nat.lt_of_lt_of_le hv (Nat.pow_le_pow_right (by omega) (by omega)))
      simp [h2, h4]
theorem set_other {w : Nat} {xs : List Nat} {i v j : Nat} (hw0 : 0 < w) (hi : i < xs.length) (h1 : j ≠ i * w / 64) (h2 : i * w % 64 + w ≤ 64 ∨ j ≠ i * w / 64 + 1) (hw : w ≤ 32) : (wordsP w (xs.set i v))[j]? = (wordsP w xs)[j]? := by
  have e := Nat.div_add_mod (i * w) 64
  have hm : i * w % 64 < 64 := Nat.mod_lt _ (by omega)
  unfold wordsP
  simp only [List.length_set, List.getElem?_map]
  cases hj : (List.range (nwP xs.length w))[j]? with
  | none => rfl
  | some j' =>
    have : j' = j := by
      have := List.getElem?_eq_some_iff.1 hj
      obtain ⟨h, rfl⟩ := this
      simp
    subst this
    simp only [Option.map_some, Option.some.injEq]
    apply ofB_ext
    intro b hb
    rw [bitX_set hw0 hi, if_neg]
    omega
/-- a number is put into its place -/
theorem pset1 {w : Nat} {xs : List Nat} {i v : Nat} (hw : w ≤ 32) (hw0 : 0 < w) (hi : i < xs.length) (hv : v < 2 ^ w) (hr : i * w % 64 + w ≤ 64) : (wordsP w xs).set (i * w / 64) (setW1 w ((wordsP w xs).getD (i * w / 64) 0) v (i * w % 64)) = wordsP w (xs.set i v) := by
  have e := Nat.div_add_mod (i * w) 64
  have hle : i * w + w ≤ xs.length * w := by rw [← Nat.succ_mul]; exact Nat.mul_le_mul_right w hi
  have hq : i * w / 64 < nwP xs.length w := by unfold nwP; omega
  rw [set_w1 hw hw0 hi hv]
  apply List.ext_getElem?
  intro j
  rw [List.getElem?_set]
  by_cases h : i * w / 64 = j
  · subst h
    rw [if_pos rfl, if_pos (by simpa using hq), List.getD_eq_getElem?_getD, List.getElem?_eq_getElem (by simpa using hq)]; rfl
  · rw [if_neg h, set_other hw0 hi (fun h' => h h'.symm) (.inl hr) hw]
theorem pset2 {w : Nat} {xs : List Nat} {i v : Nat} (hw : w ≤ 32) (hi : i < xs.length) (hv : v < 2 ^ w) (hr : 64 < i * w % 64 + w) :
    ((wordsP w xs).set (i * w / 64) (setW1 w ((wordsP w xs).getD (i * w / 64) 0) v (i * w % 64))).set (i * w / 64 + 1) (setW2 w ((wordsP w xs).getD (i * w / 64 + 1) 0) v (64 - i * w % 64)) = wordsP w (xs.set i v) := by
  have e := Nat.div_add_mod (i * w) 64
  have hle : i * w + w ≤ xs.length * w := by rw [← Nat.succ_mul]; exact Nat.mul_le_mul_right w hi
  have hq : i * w / 64 + 1 < nwP xs.length w := by unfold nwP; omega
  rw [set_w1 hw (by omega) hi hv, set_w2 hw hi hv hr]
  apply List.ext_getElem?
  intro j
  rw [List.getElem?_set, List.getElem?_set]
  by_cases h2 : i * w / 64 + 1 = j
  · subst h2
    rw [if_pos rfl, if_pos (by simpa using hq), List.getD_eq_getElem?_getD, List.getElem?_eq_getElem (by simpa using hq)]; rfl
  · rw [if_neg h2]
    by_cases h : i * w / 64 = j
    · subst h
      rw [if_pos rfl, if_pos (by simp; omega), List.getD_eq_getElem?_getD, List.getElem?_eq_getElem (by simp; omega)]; rfl
    · rw [if_neg h, set_other (by omega) hi (fun h' => h h'.symm) (.inr fun h' => h2 h'.symm) hw]
theorem wordsP_zero (n w : Nat) : wordsP w (List.replicate n 0) = List.replicate (nwP n w) 0 := by
  apply List.ext_getElem?
  intro j
  unfold wordsP
  simp only [List.getElem?_map, List.length_replicate, List.getElem?_replicate]
  by_cases h : j < nwP n w
  · rw [List.getElem?_range h, if_pos h]
    simp only [Option.map_some, Option.some.injEq]
    have h0 : ∀ k, bitX w (List.replicate n 0) k = false := by
      intro k
      unfold bitX
      have : (List.replicate n 0).getD (k / w) 0 = 0 := by
        rw [List.getD_eq_getElem?_getD, List.getElem?_replicate]; split <;> rfl
      rw [this]; simp
    simp only [h0]
    decide
  · rw [List.getElem?_eq_none (by simp; omega), if_neg h]; rfl
end
end Go.Proofs.YtdbfenhaljmbfaaGreat.Am
namespace Go.Proofs.YtdbfenhaljmbfaaGreat.Am
section
set_option linter.unusedVariables false
set_option linter.unusedSimpArgs false
open Go.RowKit
set_option maxRecDepth 100000
set_option linter.unusedSimpArgs false
set_option linter.unusedVariables false

/-- words in cells -/
def u64s (ws : List Nat) : List V := ws.map fun x : Nat => V.d (.int .u64 x)
theorem u64s_length (ws : List Nat) : (u64s ws).length = ws.length := by simp [u64s]
theorem u64s_get {ws : List Nat} {j : Nat} (h : j < ws.length) : (u64s ws)[j]? = some (.d (.int .u64 (ws.getD j 0 : Nat))) := by simp [u64s, h]
theorem u64s_set (ws : List Nat) (j v : Nat) : (u64s ws).set j (.d (.int .u64 v)) = u64s (ws.set j v) := by simp [u64s, List.map_set]
@[simp] theorem u64s_low (n : Nat) (ws : List Nat) : V.lowl n (u64s ws) = true := by induction ws <;> simp_all [u64s]
@[simp] theorem u64s_ren (θ : Nat → Nat) (ws : List Nat) : V.rens θ (u64s ws) = u64s ws := by induction ws <;> simp_all [u64s]
/-- a vector's variable, its words -/
def vecO (m n w : Nat) : Ob := ⟨169, [.own m 1 (nwP n w), .d (.int .i64 n), .d (.int .i64 w)]⟩
def vecB (w : Nat) (xs : List Nat) : Ob := ⟨80, u64s (wordsP w xs)⟩

theorem and_u64 (x y : Nat) (hx : x < 18446744073709551616) (hy : y < 18446744073709551616) : bits BinOp.and IntKind.u64 (x : Int) (y : Int) = ((x &&& y : Nat) : Int) := by
  show IntKind.u64.wrap (((BitVec.ofInt 64 (x : Int)) &&& (BitVec.ofInt 64 (y : Int))).toNat : Int) = _
  rw [BitVec.toNat_and, BitVec.ofInt_natCast, BitVec.ofInt_natCast, BitVec.toNat_ofNat, BitVec.toNat_ofNat, Nat.mod_eq_of_lt (by omega), Nat.mod_eq_of_lt (by omega)]
  have : x &&& y ≤ x := Nat.and_le_left
  rw [IntKind.wrap_u64]
  omega
theorem andNot_u64 (x y : Nat) (hx : x < 18446744073709551616) (hy : y < 18446744073709551616) : bits BinOp.andNot IntKind.u64 (x : Int) (y : Int) = ((andN x y : Nat) : Int) := by
  show IntKind.u64.wrap (((BitVec.ofInt 64 (x : Int)) &&& ~~~(BitVec.ofInt 64 (y : Int))).toNat : Int) = _
  rw [BitVec.toNat_and, BitVec.toNat_not, BitVec.ofInt_natCast, BitVec.ofInt_natCast, BitVec.toNat_ofNat, BitVec.toNat_ofNat, Nat.mod_eq_of_lt (by omega), Nat.mod_eq_of_lt (by omega)]
  have : x &&& (2 ^ 64 - 1 - y) ≤ x := Nat.and_le_left
  rw [IntKind.wrap_u64]
  unfold andN
  omega

theorem pnew_ok (n w : Nat) (hn : n ≤ 256) (hw0 : 0 < w) (hw : w ≤ 32) : Eqn Tryz.prog n_pack_New [.d (.int .i64 n), .d (.int .i64 w)] [] (.tup [.p 0 0, .d (.int .i64 0)]) [vecO 1 n w, vecB w (List.replicate n 0)] := by
  refine Eqn.gen [1, 0] r_pack_New (by simp) (by simp) (by rfl) (by decide) (by simp) (by simp [vecO, vecB]) ?_
  have hb : n * w ≤ 256 * 32 := Nat.mul_le_mul hn hw
  have g1 : ¬ (n : Int) < 0 := by omega
  have g2 : ¬ (256 : Int) < n := by omega
  have g3 : ¬ (w : Int) < 1 := by omega
  have g4 : ¬ (32 : Int) < w := by omega
  have e1 : IntKind.i64.wrap ((n : Int) * w) = ((n * w : Nat) : Int) := by rw [w64 (by rw [← Int.natCast_mul]; omega) (by rw [← Int.natCast_mul]; omega), Int.natCast_mul]
  simp only [c_pack_New, vecO, vecB, wordsP_zero]
  unfold nwP
  generalize n * w = Z at *
  have e2 : IntKind.i64.wrap ((Z : Int) + 64) = ((Z + 64 : Nat) : Int) := by rw [w64 (by omega) (by omega)]; omega
  have e3 : IntKind.i64.wrap ((Z + 64 : Nat) - 1 : Int) = ((Z + 63 : Nat) : Int) := by rw [w64 (by omega) (by omega)]; omega
  have e4 : IntKind.i64.wrap (((Z + 63 : Nat) : Int) / 64) = (((Z + 63) / 64 : Nat) : Int) := by rw [w64 (by omega) (by omega)]; rfl
  have hq : (Z + 63) / 64 ≤ 1000 := by omega
  generalize (Z + 63) / 64 = q at *
  generalize Z + 63 = Z1 at *
  generalize Z + 64 = Z2 at *
  have hrep : u64s (List.replicate q 0) = List.replicate q (V.d (.int .u64 0)) := by simp [u64s]
  have hren : ∀ θ, V.rens θ (u64s (List.replicate q 0)) = u64s (List.replicate q 0) := fun θ => u64s_ren θ _
  rw [hrep] at hren ⊢
  repeat (first | refine AW.seq ?_ | refine AW.block ?_ | (refine AW.reg mix ?_; simp (implicitDefEqProofs := false) [g1, g2, g3, g4]; try simp (disch := omega) only [w64, wu64]) | (refine need.of (by first | omega | kernel_rfl) ?_) | (refine AW.fin ?_; try simp (implicitDefEqProofs := false) [g1, g2, g3, g4]))
  refine AW.cond rfl (fun h => ?_) (fun h => ?_)
  · simp at h
  · repeat (first | refine AW.seq ?_ | refine AW.block ?_ | (refine AW.reg mix ?_; simp (implicitDefEqProofs := false) [e1, e2, e3, e4, hren]; try simp (disch := omega) only [w64, wu64]) | (refine need.of (by first | omega | kernel_rfl) ?_) | (refine AW.fin ?_; try simp (implicitDefEqProofs := false) [e1, e2, e3, e4, hren]))

/-- a vector that stays as it is -/
def vecD (w : Nat) (xs : List Nat) : List D := [.sl (nwP xs.length w) ((wordsP w xs).map fun x : Nat => D.int .u64 x), .int .i64 xs.length, .int .i64 w]

theorem place_ok (w : Nat) (xs : List Nat) (i : Nat) (hi : i < xs.length) (hn : xs.length ≤ 256) (hw : w ≤ 32) : Eqn Tryz.prog n_pack_Vector_place [.ia (vecD w xs) 0, .d (.int .i64 i)] [] (.tup [.d (.int .i64 (i * w / 64 : Nat)), .d (.int .i64 (i * w % 64 : Nat))]) [] := by
  refine Eqn.pure r_pack_Vector_place Plain.ok ?_
  have hb : i * w ≤ 256 * 32 := Nat.mul_le_mul (by omega) hw
  have e1 : IntKind.i64.wrap ((i : Int) * w) = ((i * w : Nat) : Int) := by rw [w64 (by rw [← Int.natCast_mul]; omega) (by rw [← Int.natCast_mul]; omega), Int.natCast_mul]
  simp only [c_pack_Vector_place, vecD]
  generalize i * w = Z at *
  have e2 : IntKind.i64.wrap ((Z : Int) / 64) = ((Z / 64 : Nat) : Int) := by rw [w64 (by omega) (by omega)]; rfl
  have e3 : (Z : Int).tmod 64 = ((Z % 64 : Nat) : Int) := by rw [Int.tmod_eq_emod_of_nonneg (by omega)]; rfl
  generalize Z / 64 = q at *
  generalize Z % 64 = r at *
  repeat (first | refine AW.seq ?_ | refine AW.block ?_ | (refine AW.reg mix ?_; simp (implicitDefEqProofs := false) [e1, e2, e3]; try simp (disch := omega) only [w64, wu64]) | (refine need.of (by first | omega | kernel_rfl) ?_) | (refine AW.fin ?_; try simp (implicitDefEqProofs := false) [e1, e2, e3]))

theorem pmask_any (w : Nat) (N : Nat) (L : List D) (n : Int) (hw : w ≤ 32) : Eqn Tryz.prog n_pack_Vector_mask [.ia [.sl N L, .int .i64 n, .int .i64 w] 0] [] (.d (.int .u64 (2 ^ w - 1 : Nat))) [] := by
  refine Eqn.pure r_pack_Vector_mask Plain.ok ?_
  have h32 : 2 ^ w ≤ 2 ^ 32 := Nat.pow_le_pow_right (by omega) hw
  have h0 : 0 < 2 ^ w := Nat.two_pow_pos w
  have e0 : (2 : Int) ^ w = (2 ^ w : Nat) := by rw [Int.natCast_pow]; rfl
  have hw64 : w ≤ 64 := by omega
  simp only [c_pack_Vector_mask]
  generalize 2 ^ w = S at *
  have e3 : IntKind.u64.wrap (S : Int) = S := wu64 (by omega) (by omega)
  have e4 : IntKind.u64.wrap ((S : Int) - 1) = ((S - 1 : Nat) : Int) := by rw [wu64 (by omega) (by omega)]; omega
  repeat (first | refine AW.seq ?_ | refine AW.block ?_ | (refine AW.reg mix ?_; simp (implicitDefEqProofs := false) [e0, e3, e4, hw64]; try simp (disch := omega) only [w64, wu64]) | (refine need.of (by first | omega | kernel_rfl) ?_) | (refine AW.fin ?_; try simp (implicitDefEqProofs := false) [e0, e3, e4, hw64]))

theorem pmask_ok (w : Nat) (xs : List Nat) (hw : w ≤ 32) : Eqn Tryz.prog n_pack_Vector_mask [.ia (vecD w xs) 0] [] (.d (.int .u64 (2 ^ w - 1 : Nat))) [] := pmask_any w _ _ _ hw

theorem pwidth_ok (w : Nat) (xs : List Nat) : Eqn Tryz.prog n_pack_Vector_Width [.ia (vecD w xs) 0] [] (.d (.int .i64 w)) [] := by
  refine Eqn.pure r_pack_Vector_Width Plain.ok ?_
  simp only [c_pack_Vector_Width, vecD]
  repeat (first | refine AW.seq ?_ | refine AW.block ?_ | (refine AW.reg mix ?_; simp (implicitDefEqProofs := false); try simp (disch := omega) only [w64, wu64]) | (refine need.of (by first | omega | kernel_rfl) ?_) | (refine AW.fin ?_; try simp (implicitDefEqProofs := false)))

theorem pget_out (w : Nat) (xs : List Nat) (i : Int) (hi : i < 0 ∨ (xs.length : Int) ≤ i) : Eqn Tryz.prog n_pack_Vector_Get [.ia (vecD w xs) 0, .d (.int .i64 i)] [] (.tup [.d (.int .u64 0), .d (.int .i64 1)]) [] := by
  refine Eqn.pure r_pack_Vector_Get Plain.ok ?_
  simp only [c_pack_Vector_Get, vecD]
  by_cases h0 : i < 0
  · repeat (first | refine AW.seq ?_ | refine AW.block ?_ | (refine AW.reg mix ?_; simp (implicitDefEqProofs := false) [h0]; try simp (disch := omega) only [w64, wu64]) | (refine need.of (by first | omega | kernel_rfl) ?_) | (refine AW.fin ?_; try simp (implicitDefEqProofs := false) [h0]))
    refine AW.cond rfl (fun h => ?_) (fun h => ?_)
    · repeat (first | refine AW.seq ?_ | refine AW.block ?_ | (refine AW.reg mix ?_; simp (implicitDefEqProofs := false); try simp (disch := omega) only [w64, wu64]) | (refine need.of (by first | omega | kernel_rfl) ?_) | (refine AW.fin ?_; try simp (implicitDefEqProofs := false)))
    · simp [h0] at h
  · have h1 : (xs.length : Int) ≤ i := by omega
    repeat (first | refine AW.seq ?_ | refine AW.block ?_ | (refine AW.reg mix ?_; simp (implicitDefEqProofs := false) [h0, h1]; try simp (disch := omega) only [w64, wu64]) | (refine need.of (by first | omega | kernel_rfl) ?_) | (refine AW.fin ?_; try simp (implicitDefEqProofs := false) [h0, h1]))
    refine AW.cond rfl (fun h => ?_) (fun h => ?_)
    · repeat (first | refine AW.seq ?_ | refine AW.block ?_ | (refine AW.reg mix ?_; simp (implicitDefEqProofs := false); try simp (disch := omega) only [w64, wu64]) | (refine need.of (by first | omega | kernel_rfl) ?_) | (refine AW.fin ?_; try simp (implicitDefEqProofs := false)))
    · simp [h0, h1] at h

theorem pget_ok (w : Nat) (xs : List Nat) (i : Nat) (hi : i < xs.length) (hn : xs.length ≤ 256) (hw0 : 0 < w) (hw : w ≤ 32) (hs : smallP w xs) : Eqn Tryz.prog n_pack_Vector_Get [.ia (vecD w xs) 0, .d (.int .i64 i)] [] (.tup [.d (.int .u64 (xs.getD i 0 : Nat)), .d (.int .i64 0)]) [] := by
  refine Eqn.pure r_pack_Vector_Get Plain.ok ?_
  have hpl := place_ok w xs i hi hn hw
  have hma := pmask_ok w xs hw
  have g1 : ¬ (i : Int) < 0 := by omega
  have g2 : ¬ (xs.length : Int) ≤ i := by omega
  have e := Nat.div_add_mod (i * w) 64
  have hm64 : i * w % 64 < 64 := Nat.mod_lt _ (by omega)
  have hle : i * w + w ≤ xs.length * w := by rw [← Nat.succ_mul]; exact Nat.mul_le_mul_right w hi
  have hq : i * w / 64 < nwP xs.length w := by unfold nwP; omega
  have hq2 : 64 < i * w % 64 + w → i * w / 64 + 1 < nwP xs.length w := by intro h; unfold nwP; omega
  have hx1 := wordsP_lt (w := w) (xs := xs) (i * w / 64)
  have hx2 := wordsP_lt (w := w) (xs := xs) (i * w / 64 + 1)
  have hp1 := pget1 (i := i) hs hw hi
  have hp2 := pget2 (i := i) hs hw hi
  have hqb : i * w / 64 ≤ 1000 := by have : i * w ≤ 256 * 32 := Nat.mul_le_mul (by omega) hw; omega
  have hg1 : ∀ z : D, ((wordsP w xs).map fun x : Nat => D.int .u64 x)[i * w / 64]?.getD z = .int .u64 ((wordsP w xs).getD (i * w / 64) 0 : Nat) := fun z => by simp [hq]
  have hg2 : 64 < i * w % 64 + w → ∀ z : D, ((wordsP w xs).map fun x : Nat => D.int .u64 x)[i * w / 64 + 1]?.getD z = .int .u64 ((wordsP w xs).getD (i * w / 64 + 1) 0 : Nat) := fun h z => by simp [hq2 h]
  have h32 : 2 ^ w ≤ 2 ^ 32 := Nat.pow_le_pow_right (by omega) hw
  have hlen : ((wordsP w xs).map fun x : Nat => D.int .u64 x).length = nwP xs.length w := by simp
  simp only [c_pack_Vector_Get, vecD] at hpl hma ⊢
  generalize (wordsP w xs).getD (i * w / 64) 0 = x1 at *
  generalize (wordsP w xs).getD (i * w / 64 + 1) 0 = x2 at *
  generalize xs.getD i 0 = res at *
  generalize i * w / 64 = q at *
  generalize i * w % 64 = r at *
  generalize ((wordsP w xs).map fun x : Nat => D.int .u64 x) = L at *
  generalize nwP xs.length w = NW at *
  have e1 : (x1 : Int) / 2 ^ r = ((x1 / 2 ^ r : Nat) : Int) := by rw [Int.natCast_ediv, Int.natCast_pow]; rfl
  have e2 : IntKind.i64.wrap ((r : Int) + w) = ((r + w : Nat) : Int) := by rw [w64 (by omega) (by omega)]; omega
  have hx1r : x1 / 2 ^ r ≤ x1 := Nat.div_le_self _ _
  have hr64 : (r : Int) ≤ 64 := by omega
  by_cases hrw : r + w ≤ 64
  · replace hp1 := hp1 hrw
    have e3 := and_u64 (x1 / 2 ^ r) (2 ^ w - 1) (by omega) (by omega)
    rw [hp1] at e3
    generalize x1 / 2 ^ r = X1 at *
    generalize 2 ^ w - 1 = M at *
    have g3 : ¬ (64 : Int) < (r : Int) + w := by omega
    have g3' : ¬ (64 : Int) < (r + w : Nat) := by omega
    have g3'' : ¬ 64 < r + w := by omega
    generalize r + w = rw_ at *
    repeat (first | refine AW.seq ?_ | refine AW.block ?_ | (refine AW.reg mix ?_; simp (implicitDefEqProofs := false) [g1, g2]; try simp (disch := omega) only [w64, wu64]) | (refine need.of (by first | omega | kernel_rfl) ?_) | (refine AW.fin ?_; try simp (implicitDefEqProofs := false) [g1, g2]))
    refine AW.cond rfl (fun h => ?_) (fun h => ?_)
    · simp [g1, g2] at h
    repeat (first | refine AW.seq ?_ | refine AW.block ?_ | (refine AW.reg mix ?_; simp (implicitDefEqProofs := false) [-Bool.exists_bool]; try simp (disch := omega) only [w64, wu64]) | (refine need.of (by first | omega | kernel_rfl) ?_) | (refine AW.fin ?_; try simp (implicitDefEqProofs := false) [-Bool.exists_bool]))
    refine CallS.pu (hpl) ?_
    (try (simp (implicitDefEqProofs := false); try simp (disch := omega) only [w64, wu64]))
    repeat (first | refine AW.seq ?_ | refine AW.block ?_ | (refine AW.reg mix ?_; simp (implicitDefEqProofs := false); try simp (disch := omega) only [w64, wu64]) | (refine need.of (by first | omega | kernel_rfl) ?_) | (refine AW.fin ?_; try simp (implicitDefEqProofs := false)))
    repeat (first | refine AW.seq ?_ | refine AW.block ?_ | (refine AW.reg mix ?_; simp (implicitDefEqProofs := false) [hg1, e1, e2, hr64, g3, g3', g3'']; try simp (disch := omega) only [w64, wu64]) | (refine need.of (by first | omega | kernel_rfl) ?_) | (refine AW.fin ?_; try simp (implicitDefEqProofs := false) [hg1, e1, e2, hr64, g3, g3', g3'']))
    (try (simp (implicitDefEqProofs := false) [hg1, e1, e2, hr64, g3, g3', g3'']; try simp (disch := omega) only [w64, wu64]))
    repeat (first | refine AW.seq ?_ | refine AW.block ?_ | (refine AW.reg mix ?_; simp (implicitDefEqProofs := false) [hg1, e1, e2, hr64, g3, g3', g3'']; try simp (disch := omega) only [w64, wu64]) | (refine need.of (by first | omega | kernel_rfl) ?_) | (refine AW.fin ?_; try simp (implicitDefEqProofs := false) [hg1, e1, e2, hr64, g3, g3', g3'']))
    refine AW.cond rfl (fun h => ?_) (fun h => ?_)
    · simp [g3''] at h
    repeat (first | refine AW.seq ?_ | refine AW.block ?_ | (refine AW.reg mix ?_; simp (implicitDefEqProofs := false); try simp (disch := omega) only [w64, wu64]) | (refine need.of (by first | omega | kernel_rfl) ?_) | (refine AW.fin ?_; try simp (implicitDefEqProofs := false)))
    refine CallS.pu (hma) ?_
    (try (simp (implicitDefEqProofs := false) [e3]; try simp (disch := omega) only [w64, wu64]))
    repeat (first | refine AW.seq ?_ | refine AW.block ?_ | (refine AW.reg mix ?_; simp (implicitDefEqProofs := false) [e3]; try simp (disch := omega) only [w64, wu64]) | (refine need.of (by first | omega | kernel_rfl) ?_) | (refine AW.fin ?_; try simp (implicitDefEqProofs := false) [e3]))
  · have hr2 : 64 < r + w := by omega
    replace hp2 := hp2 hr2
    replace hg2 := hg2 hr2
    replace hq2 := hq2 hr2
    have e4 : IntKind.i64.wrap (64 - (r : Int)) = ((64 - r : Nat) : Int) := by rw [w64 (by omega) (by omega)]; omega
    have e5 : IntKind.u64.wrap ((x2 : Int) * 2 ^ (64 - r)) = ((x2 * 2 ^ (64 - r) % 2 ^ 64 : Nat) : Int) := by
      rw [IntKind.wrap_u64, Int.natCast_emod, Int.natCast_mul, Int.natCast_pow]; rfl
    have hx2m : x2 * 2 ^ (64 - r) % 2 ^ 64 < 2 ^ 64 := Nat.mod_lt _ (by omega)
    have e6 := or_u64 (x1 / 2 ^ r) (x2 * 2 ^ (64 - r) % 2 ^ 64) (by omega) (by omega)
    have hor := Nat.or_lt_two_pow (n := 64) (x := x1 / 2 ^ r) (y := x2 * 2 ^ (64 - r) % 2 ^ 64) (by omega) hx2m
    have e7 := and_u64 (x1 / 2 ^ r ||| x2 * 2 ^ (64 - r) % 2 ^ 64) (2 ^ w - 1) (by omega) (by omega)
    rw [hp2] at e7
    have hs64 : ((64 - r : Nat) : Int) ≤ 64 := by omega
    generalize x1 / 2 ^ r = X1 at *
    generalize x2 * 2 ^ (64 - r) % 2 ^ 64 = X2 at *
    generalize X1 ||| X2 = X3 at *
    generalize 2 ^ w - 1 = M at *
    generalize 64 - r = s at *
    have g3 : (64 : Int) < (r + w : Nat) := by omega
    have e8 : IntKind.i64.wrap ((q : Int) + 1) = ((q + 1 : Nat) : Int) := by rw [w64 (by omega) (by omega)]; omega
    generalize r + w = rw_ at *
    obtain ⟨q1, hq1⟩ : ∃ q1, q1 = q + 1 := ⟨_, rfl⟩
    rw [← hq1] at hg2 hq2 e8
    repeat (first | refine AW.seq ?_ | refine AW.block ?_ | (refine AW.reg mix ?_; simp (implicitDefEqProofs := false) [g1, g2]; try simp (disch := omega) only [w64, wu64]) | (refine need.of (by first | omega | kernel_rfl) ?_) | (refine AW.fin ?_; try simp (implicitDefEqProofs := false) [g1, g2]))
    refine AW.cond rfl (fun h => ?_) (fun h => ?_)
    · simp [g1, g2] at h
    repeat (first | refine AW.seq ?_ | refine AW.block ?_ | (refine AW.reg mix ?_; simp (implicitDefEqProofs := false) [-Bool.exists_bool]; try simp (disch := omega) only [w64, wu64]) | (refine need.of (by first | omega | kernel_rfl) ?_) | (refine AW.fin ?_; try simp (implicitDefEqProofs := false) [-Bool.exists_bool]))
    refine CallS.pu (hpl) ?_
    (try (simp (implicitDefEqProofs := false); try simp (disch := omega) only [w64, wu64]))
    repeat (first | refine AW.seq ?_ | refine AW.block ?_ | (refine AW.reg mix ?_; simp (implicitDefEqProofs := false); try simp (disch := omega) only [w64, wu64]) | (refine need.of (by first | omega | kernel_rfl) ?_) | (refine AW.fin ?_; try simp (implicitDefEqProofs := false)))
    repeat (first | refine AW.seq ?_ | refine AW.block ?_ | (refine AW.reg mix ?_; simp (implicitDefEqProofs := false) [hg1, e1, e2, hr64, g3, hr2]; try simp (disch := omega) only [w64, wu64]) | (refine need.of (by first | omega | kernel_rfl) ?_) | (refine AW.fin ?_; try simp (implicitDefEqProofs := false) [hg1, e1, e2, hr64, g3, hr2]))
    (try (simp (implicitDefEqProofs := false) [hg1, e1, e2, hr64, g3, hr2]; try simp (disch := omega) only [w64, wu64]))
    repeat (first | refine AW.seq ?_ | refine AW.block ?_ | (refine AW.reg mix ?_; simp (implicitDefEqProofs := false) [hg1, e1, e2, hr64, g3, hr2]; try simp (disch := omega) only [w64, wu64]) | (refine need.of (by first | omega | kernel_rfl) ?_) | (refine AW.fin ?_; try simp (implicitDefEqProofs := false) [hg1, e1, e2, hr64, g3, hr2]))
    refine AW.cond rfl (fun h => ?_) (fun h => ?_)
    · repeat (first | refine AW.seq ?_ | refine AW.block ?_ | (refine AW.reg mix ?_; simp (implicitDefEqProofs := false) [hg2, e4, e5, e6, e8, hs64]; try simp (disch := omega) only [w64, wu64]) | (refine need.of (by first | omega | kernel_rfl) ?_) | (refine AW.fin ?_; try simp (implicitDefEqProofs := false) [hg2, e4, e5, e6, e8, hs64]))
      (try (simp (implicitDefEqProofs := false) [hg2, e4, e5, e6, e8, hs64]; try simp (disch := omega) only [w64, wu64]))
      repeat (first | refine AW.seq ?_ | refine AW.block ?_ | (refine AW.reg mix ?_; simp (implicitDefEqProofs := false) [hg2, e4, e5, e6, e8, hs64]; try simp (disch := omega) only [w64, wu64]) | (refine need.of (by first | omega | kernel_rfl) ?_) | (refine AW.fin ?_; try simp (implicitDefEqProofs := false) [hg2, e4, e5, e6, e8, hs64]))
      refine CallS.pu (hma) ?_
      (try (simp (implicitDefEqProofs := false) [e7]; try simp (disch := omega) only [w64, wu64]))
      repeat (first | refine AW.seq ?_ | refine AW.block ?_ | (refine AW.reg mix ?_; simp (implicitDefEqProofs := false) [e7]; try simp (disch := omega) only [w64, wu64]) | (refine need.of (by first | omega | kernel_rfl) ?_) | (refine AW.fin ?_; try simp (implicitDefEqProofs := false) [e7]))
    · simp [hr2] at h
end
end Go.Proofs.YtdbfenhaljmbfaaGreat.Am
namespace Go.Proofs.YtdbfenhaljmbfaaGreat.Am
section
set_option linter.unusedVariables false
set_option linter.unusedSimpArgs false
open Go.RowKit
set_option maxRecDepth 100000
set_option linter.unusedSimpArgs false
set_option linter.unusedVariables false

set_option maxHeartbeats 1000000 in
theorem pset_ok (w : Nat) (xs : List Nat) (i v : Nat) (hi : i < xs.length) (hn : xs.length ≤ 256) (hw0 : 0 < w) (hw : w ≤ 32) (hv : v < 2 ^ w) : Eqn Tryz.prog n_pack_Vector_Set [.p 0 0, .d (.int .i64 i), .d (.int .u64 v)] [vecO 1 xs.length w, vecB w xs] (.d (.int .i64 0)) [vecO 1 xs.length w, vecB w (xs.set i v)] := by
  refine Eqn.gen [0, 1] r_pack_Vector_Set (by simp) (by simp) (by rfl) (by decide) (by simp) (by simp [vecO, vecB]) ?_
  have hpl := place_ok w xs i hi hn hw
  have hma := fun N L n => pmask_any w N L n hw
  have g1 : ¬ (i : Int) < 0 := by omega
  have g2 : ¬ (xs.length : Int) ≤ i := by omega
  have e := Nat.div_add_mod (i * w) 64
  have hm64 : i * w % 64 < 64 := Nat.mod_lt _ (by omega)
  have hle : i * w + w ≤ xs.length * w := by rw [← Nat.succ_mul]; exact Nat.mul_le_mul_right w hi
  have hq : i * w / 64 < (wordsP w xs).length := by rw [wordsP_len]; unfold nwP; omega
  have hq2 : 64 < i * w % 64 + w → i * w / 64 + 1 < (wordsP w xs).length := by intro h; rw [wordsP_len]; unfold nwP; omega
  have hx1 := wordsP_lt (w := w) (xs := xs) (i * w / 64)
  have hx2 := wordsP_lt (w := w) (xs := xs) (i * w / 64 + 1)
  have hp1 := pset1 (xs := xs) (i := i) hw hw0 hi hv
  have hp2 := pset2 (xs := xs) (i := i) hw hi hv
  have hqb : i * w / 64 ≤ 1000 := by have : i * w ≤ 256 * 32 := Nat.mul_le_mul (by omega) hw; omega
  have hg1 := u64s_get hq
  have hg2 := fun h => u64s_get (hq2 h)
  have hs1 := u64s_set (wordsP w xs) (i * w / 64) (setW1 w ((wordsP w xs).getD (i * w / 64) 0) v (i * w % 64))
  have hs2 := u64s_set ((wordsP w xs).set (i * w / 64) (setW1 w ((wordsP w xs).getD (i * w / 64) 0) v (i * w % 64))) (i * w / 64 + 1) (setW2 w ((wordsP w xs).getD (i * w / 64 + 1) 0) v (64 - i * w % 64))
  have hg3 : 64 < i * w % 64 + w → ((u64s (wordsP w xs)).set (i * w / 64) (V.d (.int .u64 (setW1 w ((wordsP w xs).getD (i * w / 64) 0) v (i * w % 64) : Nat))))[i * w / 64 + 1]? = some (.d (.int .u64 ((wordsP w xs).getD (i * w / 64 + 1) 0 : Nat))) := by
    intro h
    rw [List.getElem?_set, if_neg (by omega)]
    exact hg2 h
  have h32 : 2 ^ w ≤ 2 ^ 32 := Nat.pow_le_pow_right (by omega) hw
  have hlen := u64s_length (wordsP w xs)
  have hnle : ¬ ((2 ^ w - 1 : Nat) : Int) < v := by omega
  have hnle' : ¬ (2 ^ w - 1 < v) := by omega
  have hlx : (xs.set i v).length = xs.length := List.length_set
  rw [wordsP_len] at hlen hq hq2
  -- the first word
  have w1 : IntKind.u64.wrap (((2 ^ w - 1 : Nat) : Int) * 2 ^ (i * w % 64)) = (((2 ^ w - 1) * 2 ^ (i * w % 64) % 2 ^ 64 : Nat) : Int) := by
    rw [IntKind.wrap_u64, Int.natCast_emod, Int.natCast_mul, Int.natCast_pow]; rfl
  have w2 : IntKind.u64.wrap ((v : Int) * 2 ^ (i * w % 64)) = ((v * 2 ^ (i * w % 64) % 2 ^ 64 : Nat) : Int) := by
    rw [IntKind.wrap_u64, Int.natCast_emod, Int.natCast_mul, Int.natCast_pow]; rfl
  have lt1 : (2 ^ w - 1) * 2 ^ (i * w % 64) % 2 ^ 64 < 2 ^ 64 := Nat.mod_lt _ (by omega)
  have lt2 : v * 2 ^ (i * w % 64) % 2 ^ 64 < 2 ^ 64 := Nat.mod_lt _ (by omega)
  have w3 := andNot_u64 ((wordsP w xs).getD (i * w / 64) 0) ((2 ^ w - 1) * 2 ^ (i * w % 64) % 2 ^ 64) hx1 lt1
  have w4 := or_u64 (andN ((wordsP w xs).getD (i * w / 64) 0) ((2 ^ w - 1) * 2 ^ (i * w % 64) % 2 ^ 64)) (v * 2 ^ (i * w % 64) % 2 ^ 64) (andN_lt hx1) lt2
  have w5 : andN ((wordsP w xs).getD (i * w / 64) 0) ((2 ^ w - 1) * 2 ^ (i * w % 64) % 2 ^ 64) ||| v * 2 ^ (i * w % 64) % 2 ^ 64 = setW1 w ((wordsP w xs).getD (i * w / 64) 0) v (i * w % 64) := rfl
  rw [w5] at w4
  clear w5
  -- the second one
  have w6 : (((2 ^ w - 1 : Nat) : Int)) / 2 ^ (64 - i * w % 64) = (((2 ^ w - 1) / 2 ^ (64 - i * w % 64) : Nat) : Int) := by rw [Int.natCast_ediv, Int.natCast_pow]; rfl
  have w7 : (v : Int) / 2 ^ (64 - i * w % 64) = ((v / 2 ^ (64 - i * w % 64) : Nat) : Int) := by rw [Int.natCast_ediv, Int.natCast_pow]; rfl
  have lt3 : (2 ^ w - 1) / 2 ^ (64 - i * w % 64) < 2 ^ 64 := Nat.lt_of_le_of_lt (Nat.div_le_self _ _) (by omega)
  have lt4 : v / 2 ^ (64 - i * w % 64) < 2 ^ 64 := Nat.lt_of_le_of_lt (Nat.div_le_self _ _) (by omega)
  have w8 := andNot_u64 ((wordsP w xs).getD (i * w / 64 + 1) 0) ((2 ^ w - 1) / 2 ^ (64 - i * w % 64)) hx2 lt3
  have w9 := or_u64 (andN ((wordsP w xs).getD (i * w / 64 + 1) 0) ((2 ^ w - 1) / 2 ^ (64 - i * w % 64))) (v / 2 ^ (64 - i * w % 64)) (andN_lt hx2) lt4
  have w10 : andN ((wordsP w xs).getD (i * w / 64 + 1) 0) ((2 ^ w - 1) / 2 ^ (64 - i * w % 64)) ||| v / 2 ^ (64 - i * w % 64) = setW2 w ((wordsP w xs).getD (i * w / 64 + 1) 0) v (64 - i * w % 64) := rfl
  rw [w10] at w9
  clear w10 lt1 lt2 lt3 lt4
  simp only [c_pack_Vector_Set, vecO, vecB, hlx]
  have hL0 : u64s (wordsP w xs) = ((wordsP w xs).map fun x : Nat => D.int .u64 x).map V.d := by simp [u64s]
  have htk : ((wordsP w xs).map fun x : Nat => D.int .u64 x).take (nwP xs.length w) = (wordsP w xs).map fun x : Nat => D.int .u64 x := List.take_of_length_le (by simp)
  simp only [vecD] at hpl
  generalize hL : ((wordsP w xs).map fun x : Nat => D.int .u64 x) = L0 at *
  generalize hW : wordsP w (xs.set i v) = W2 at *
  generalize andN ((wordsP w xs).getD (i * w / 64) 0) ((2 ^ w - 1) * 2 ^ (i * w % 64) % 2 ^ 64) = A1 at *
  generalize andN ((wordsP w xs).getD (i * w / 64 + 1) 0) ((2 ^ w - 1) / 2 ^ (64 - i * w % 64)) = A2 at *
  generalize setW1 w ((wordsP w xs).getD (i * w / 64) 0) v (i * w % 64) = Y1 at *
  generalize setW2 w ((wordsP w xs).getD (i * w / 64 + 1) 0) v (64 - i * w % 64) = Y2 at *
  generalize (wordsP w xs).getD (i * w / 64) 0 = x1 at *
  generalize (wordsP w xs).getD (i * w / 64 + 1) 0 = x2 at *
  generalize (2 ^ w - 1) * 2 ^ (i * w % 64) % 2 ^ 64 = M1 at *
  generalize v * 2 ^ (i * w % 64) % 2 ^ 64 = v1 at *
  generalize (2 ^ w - 1) / 2 ^ (64 - i * w % 64) = M2 at *
  generalize v / 2 ^ (64 - i * w % 64) = v2 at *
  generalize 2 ^ w - 1 = M at *
  have hs64 : 64 - i * w % 64 ≤ 64 := by omega
  have e4 : IntKind.i64.wrap (64 - ((i * w % 64 : Nat) : Int)) = ((64 - i * w % 64 : Nat) : Int) := by rw [w64 (by omega) (by omega)]; omega
  have e8 : IntKind.i64.wrap (((i * w / 64 : Nat) : Int) + 1) = ((i * w / 64 + 1 : Nat) : Int) := by rw [w64 (by omega) (by omega)]; omega
  have e2 : IntKind.i64.wrap (((i * w % 64 : Nat) : Int) + w) = ((i * w % 64 + w : Nat) : Int) := by rw [w64 (by omega) (by omega)]; omega
  generalize 64 - i * w % 64 = s at *
  generalize i * w / 64 + 1 = q1 at *
  generalize i * w / 64 = q at *
  generalize i * w % 64 + w = rw_ at *
  generalize i * w % 64 = r at *
  generalize wordsP w xs = WS at *
  generalize nwP xs.length w = NW at *
  have hr64 : (r : Int) ≤ 64 := by omega
  have hs64' : (s : Int) ≤ 64 := by omega
  repeat (first | refine AW.seq ?_ | refine AW.block ?_ | (refine AW.reg mix ?_; simp (implicitDefEqProofs := false) [g1, g2]; try simp (disch := omega) only [w64, wu64]) | (refine need.of (by first | omega | kernel_rfl) ?_) | (refine AW.fin ?_; try simp (implicitDefEqProofs := false) [g1, g2]))
  refine AW.cond rfl (fun h => ?_) (fun h => ?_)
  · simp [g1, g2] at h
  repeat (first | refine AW.seq ?_ | refine AW.block ?_ | (refine AW.reg mix ?_; simp (implicitDefEqProofs := false); try simp (disch := omega) only [w64, wu64]) | (refine need.of (by first | omega | kernel_rfl) ?_) | (refine AW.fin ?_; try simp (implicitDefEqProofs := false)))
  refine CallS.ro [(1, 1, L0), (0, 1, [.sl NW L0, .int .i64 xs.length, .int .i64 w])] (hma NW L0 xs.length) ?_ (hok := by first | (simp [frzOK, frzH, hL0, htk]; done) | (simp [frzOK, frzH, hL0, htk]; rfl))
  (try (simp (implicitDefEqProofs := false) [hnle, hnle']; try simp (disch := omega) only [w64, wu64]))
  repeat (first | refine AW.seq ?_ | refine AW.block ?_ | (refine AW.reg mix ?_; simp (implicitDefEqProofs := false) [hnle, hnle']; try simp (disch := omega) only [w64, wu64]) | (refine need.of (by first | omega | kernel_rfl) ?_) | (refine AW.fin ?_; try simp (implicitDefEqProofs := false) [hnle, hnle']))
  refine AW.cond rfl (fun h => ?_) (fun h => ?_)
  · simp [hnle'] at h
  repeat (first | refine AW.seq ?_ | refine AW.block ?_ | (refine AW.reg mix ?_; simp (implicitDefEqProofs := false); try simp (disch := omega) only [w64, wu64]) | (refine need.of (by first | omega | kernel_rfl) ?_) | (refine AW.fin ?_; try simp (implicitDefEqProofs := false)))
  refine CallS.ro [(1, 1, L0), (0, 1, _)] (hpl) ?_ (hok := by first | (simp [frzOK, frzH, hL0, htk]; done) | (simp [frzOK, frzH, hL0, htk]; rfl))
  (try (simp (implicitDefEqProofs := false); try simp (disch := omega) only [w64, wu64]))
  repeat (first | refine AW.seq ?_ | refine AW.block ?_ | (refine AW.reg mix ?_; simp (implicitDefEqProofs := false); try simp (disch := omega) only [w64, wu64]) | (refine need.of (by first | omega | kernel_rfl) ?_) | (refine AW.fin ?_; try simp (implicitDefEqProofs := false)))
  refine CallS.ro [(1, 1, L0), (0, 1, [.sl NW L0, .int .i64 xs.length, .int .i64 w])] (hma NW L0 xs.length) ?_ (hok := by first | (simp [frzOK, frzH, hL0, htk]; done) | (simp [frzOK, frzH, hL0, htk]; rfl))
  (try (simp (implicitDefEqProofs := false); try simp (disch := omega) only [w64, wu64]))
  repeat (first | refine AW.seq ?_ | refine AW.block ?_ | (refine AW.reg mix ?_; simp (implicitDefEqProofs := false); try simp (disch := omega) only [w64, wu64]) | (refine need.of (by first | omega | kernel_rfl) ?_) | (refine AW.fin ?_; try simp (implicitDefEqProofs := false)))
  repeat (first | refine AW.seq ?_ | refine AW.block ?_ | (refine AW.reg mix ?_; simp (implicitDefEqProofs := false) [hg1, w1, w2, w3, w4, hr64, e2]; try simp (disch := omega) only [w64, wu64]) | (refine need.of (by first | omega | kernel_rfl) ?_) | (refine AW.fin ?_; try simp (implicitDefEqProofs := false) [hg1, w1, w2, w3, w4, hr64, e2]))
  (try (simp (implicitDefEqProofs := false) [hg1, w1, w2, w3, w4, hr64, e2]; try simp (disch := omega) only [w64, wu64]))
  repeat (first | refine AW.seq ?_ | refine AW.block ?_ | (refine AW.reg mix ?_; simp (implicitDefEqProofs := false) [hg1, w1, w2, w3, w4, hr64, e2]; try simp (disch := omega) only [w64, wu64]) | (refine need.of (by first | omega | kernel_rfl) ?_) | (refine AW.fin ?_; try simp (implicitDefEqProofs := false) [hg1, w1, w2, w3, w4, hr64, e2]))
  by_cases hrw : rw_ ≤ 64
  · replace hp1 := hp1 hrw
    have g3 : ¬ 64 < rw_ := by omega
    have g3' : ¬ (64 : Int) < rw_ := by omega
    refine AW.cond rfl (fun h => ?_) (fun h => ?_)
    · exfalso; simp at h; omega
    repeat (first | refine AW.seq ?_ | refine AW.block ?_ | (refine AW.reg mix ?_; simp (implicitDefEqProofs := false); try simp (disch := omega) only [w64, wu64]) | (refine need.of (by first | omega | kernel_rfl) ?_) | (refine AW.fin ?_; try simp (implicitDefEqProofs := false)))
    exact Subs.of (by rw [u64s_set, hp1])
  · have g3 : 64 < rw_ := by omega
    replace hp2 := hp2 g3
    replace hg3 := hg3 g3
    replace hq2 := hq2 g3
    obtain ⟨L1, hL1, hL1l⟩ : ∃ L1 : List D, (u64s WS).set q (V.d (.int .u64 Y1)) = L1.map V.d ∧ L1.length = NW := ⟨(WS.set q Y1).map fun x : Nat => D.int .u64 x, by rw [u64s_set]; simp [u64s, Function.comp_def], by simp; have := u64s_length WS; omega⟩
    have htk1 : L1.take NW = L1 := List.take_of_length_le (by omega)
    have hR : ((u64s WS).set q (V.d (.int .u64 Y1))).length = NW := by simp [hlen]
    refine AW.cond rfl (fun h => ?_) (fun h => ?_)
    · repeat (first | refine AW.seq ?_ | refine AW.block ?_ | (refine AW.reg mix ?_; simp (implicitDefEqProofs := false) [e4, e8]; try simp (disch := omega) only [w64, wu64]) | (refine need.of (by first | omega | kernel_rfl) ?_) | (refine AW.fin ?_; try simp (implicitDefEqProofs := false) [e4, e8]))
      refine CallS.ro [(1, 1, L1), (0, 1, [.sl NW L1, .int .i64 xs.length, .int .i64 w])] (hma NW L1 xs.length) ?_ (hok := by first | (simp [frzOK, frzH, hL1, htk1]; done) | (simp [frzOK, frzH, hL1, htk1]; rfl))
      (try (simp (implicitDefEqProofs := false); try simp (disch := omega) only [w64, wu64]))
      repeat (first | refine AW.seq ?_ | refine AW.block ?_ | (refine AW.reg mix ?_; simp (implicitDefEqProofs := false); try simp (disch := omega) only [w64, wu64]) | (refine need.of (by first | omega | kernel_rfl) ?_) | (refine AW.fin ?_; try simp (implicitDefEqProofs := false)))
      repeat (first | refine AW.seq ?_ | refine AW.block ?_ | (refine AW.reg mix ?_; simp (implicitDefEqProofs := false) [hg3, w6, w7, w8, w9, hs64']; try simp (disch := omega) only [w64, wu64]) | (refine need.of (by first | omega | kernel_rfl) ?_) | (refine AW.fin ?_; try simp (implicitDefEqProofs := false) [hg3, w6, w7, w8, w9, hs64']))
      (try (simp (implicitDefEqProofs := false) [hg3, w6, w7, w8, w9, hs64']; try simp (disch := omega) only [w64, wu64]))
      repeat (first | refine AW.seq ?_ | refine AW.block ?_ | (refine AW.reg mix ?_; simp (implicitDefEqProofs := false) [hg3, w6, w7, w8, w9, hs64']; try simp (disch := omega) only [w64, wu64]) | (refine need.of (by first | omega | kernel_rfl) ?_) | (refine AW.fin ?_; try simp (implicitDefEqProofs := false) [hg3, w6, w7, w8, w9, hs64']))
      exact Subs.of (by rw [u64s_set, u64s_set, hp2])
    · exfalso; simp at h; omega
end
end Go.Proofs.YtdbfenhaljmbfaaGreat.Am
namespace Go.Proofs.YtdbfenhaljmbfaaGreat.Am
section
set_option linter.unusedVariables false
set_option linter.unusedSimpArgs false
open Go.RowKit
set_option maxRecDepth 100000
set_option linter.unusedSimpArgs false
set_option linter.unusedVariables false

theorem bitsW_numB : ∀ (n : Nat) (bs : List Bool), bs.length = n → bitsW (numB bs 0) n = bs
  | 0, bs, h => by rw [List.eq_nil_of_length_eq_zero h]; rfl
  | n + 1, bs, h => by
    rcases List.eq_nil_or_concat bs with rfl | ⟨l, b, rfl⟩
    · simp at h
    · simp at h
      rw [List.concat_eq_append, numB_append, show numB [b] (numB l 0) = 2 * numB l 0 + b2n b from rfl, bitsW_succ]
      have hb : (2 * numB l 0 + b2n b) / 2 = numB l 0 := by have := b2n_le b; omega
      have hb2 : decide ((2 * numB l 0 + b2n b) % 2 = 1) = b := by cases b <;> simp [b2n] <;> omega
      rw [hb, hb2, bitsW_numB n l h]

/-- a register as a number -/
def encN (k a b y t : Nat) (f : Bool) : Nat := numB (encR k a b y t f) 0
def wdR (k a b : Nat) : Nat := kwR k a b + twR k b + 1
theorem encN_lt (k a b y t : Nat) (f : Bool) : encN k a b y t f < 2 ^ wdR k a b := by have := numB_lt (encR k a b y t f); rw [encR_len] at this; exact this
theorem encN_bits (k a b y t : Nat) (f : Bool) : bitsW (encN k a b y t f) (wdR k a b) = encR k a b y t f := bitsW_numB _ _ (encR_len k a b y t f)
theorem wdR_le {k a b : Nat} (h : GoodR k a b) : 0 < wdR k a b ∧ wdR k a b ≤ 16 := by
  have := (kwR_pos h); have := twR_le h; unfold wdR; omega

theorem bitsOf_prefix (bs : List Bool) (a n : Nat) (h : a + n ≤ bs.length) : ((bitsOf (bytesOf bs)).drop a).take n = (bs.drop a).take n := by
  have e := bitsOf_bytesOf bs
  conv => rhs; rw [← e]
  rw [List.drop_take, List.take_take, Nat.min_eq_left (by omega)]
theorem readR_enc {k a b y t : Nat} {f : Bool} (hg : GoodR k a b) (h : WellR k a b y t f) : readR (bytesOf (encR k a b y t f)) k a b 0 = ((y, t, f), 0, wdR k a b) := by
  have hl := encR_len k a b y t f
  have hf := well_fits hg h
  have h1 : numAt (bytesOf (encR k a b y t f)) 0 (kwR k a b) = y := by
    unfold numAt
    rw [bitsOf_prefix _ _ _ (by omega), List.drop_zero]
    unfold encR
    rw [List.append_assoc, List.take_append_of_le_length (by simp), List.take_of_length_le (by simp), numB_bitsW, Nat.mod_eq_of_lt hf.1]
  have h2 : numAt (bytesOf (encR k a b y t f)) (0 + kwR k a b) (twR k b) = t := by
    unfold numAt
    rw [bitsOf_prefix _ _ _ (by omega), Nat.zero_add]
    unfold encR
    rw [List.append_assoc, List.drop_append_of_le_length (by simp), List.drop_of_length_le (by simp), List.nil_append, List.take_append_of_le_length (by simp), List.take_of_length_le (by simp), numB_bitsW, Nat.mod_eq_of_lt hf.2]
  have h3 : (bitsOf (bytesOf (encR k a b y t f))).getD (0 + kwR k a b + twR k b) false = f := by
    have e := bitsOf_prefix (encR k a b y t f) (kwR k a b + twR k b) 1 (by omega)
    have : ((encR k a b y t f).drop (kwR k a b + twR k b)).take 1 = [f] := by
      unfold encR
      rw [List.drop_append_of_le_length (by simp), List.drop_of_length_le (by simp)]; rfl
    rw [this] at e
    rw [Nat.zero_add, List.getD_eq_getElem?_getD]
    have e2 := congrArg (fun l => l[0]?) e
    simp only [List.getElem?_take, List.getElem?_drop] at e2
    simp at e2
    rw [e2]; rfl
  unfold readR
  rw [h1, h2, h3, if_neg (by rw [bytesOf_len, hl]; omega), if_pos (wellRB_iff.2 h)]
  simp [wdR]

/-- states -/
abbrev ST := Nat × Nat × Bool
def encs (k a b : Nat) (l : List ST) : List Nat := l.map fun s => encN k a b s.1 s.2.1 s.2.2
def wells (k a b : Nat) (l : List ST) : Prop := ∀ s ∈ l, WellR k a b s.1 s.2.1 s.2.2
@[simp] theorem encs_len (k a b : Nat) (l : List ST) : (encs k a b l).length = l.length := by simp [encs]
theorem encs_small (k a b : Nat) (l : List ST) : smallP (wdR k a b) (encs k a b l) := by
  intro x hx
  obtain ⟨s, -, rfl⟩ := List.mem_map.1 hx
  exact encN_lt _ _ _ _ _ _
theorem encs_get {k a b : Nat} {l : List ST} {i : Nat} (h : i < l.length) : (encs k a b l).getD i 0 = encN k a b (l.getD i (0, 0, false)).1 (l.getD i (0, 0, false)).2.1 (l.getD i (0, 0, false)).2.2 := by simp [encs, h]
theorem encs_set (k a b : Nat) (l : List ST) (i : Nat) (s : ST) : (encs k a b l).set i (encN k a b s.1 s.2.1 s.2.2) = encs k a b (l.set i s) := by simp [encs, List.map_set]
theorem wells_get {k a b : Nat} {l : List ST} (h : wells k a b l) {i : Nat} (hi : i < l.length) : WellR k a b (l.getD i (0, 0, false)).1 (l.getD i (0, 0, false)).2.1 (l.getD i (0, 0, false)).2.2 := by
  rw [List.getD_eq_getElem?_getD, List.getElem?_eq_getElem hi]; exact h _ (List.getElem_mem hi)
/-- an array's variable -/
def arrO (v : Nat) (k a b : Nat) : Ob := ⟨109, [.p v 0, .d (.int .i64 k), .d (.int .i64 a), .d (.int .i64 b)]⟩
def arrV (m : Nat) (k a b : Nat) (l : List ST) : Ob := vecO m l.length (wdR k a b)
def arrB (k a b : Nat) (l : List ST) : Ob := vecB (wdR k a b) (encs k a b l)

theorem smallB_bytes (bs : List Bool) : smallB (bytesOf bs) := by
  intro x hx
  obtain ⟨i, -, rfl⟩ := List.mem_map.1 hx
  exact byteAt_lt _ _

set_option maxHeartbeats 1000000 in
theorem cget_ok {k a b : Nat} (l : List ST) (i : Nat) (h : GoodR k a b) (hw : wells k a b l) (hi : i < l.length) (hn : l.length ≤ 256) :
    Eqn Tryz.prog n_carray_Array_Get [.p 0 0, .d (.int .i64 i)] [arrO 1 k a b, arrV 2 k a b l, arrB k a b l] (.tup [.d (tsD (l.getD i (0, 0, false)).1 (l.getD i (0, 0, false)).2.1 (l.getD i (0, 0, false)).2.2), .d (.int .i64 0)]) [arrO 1 k a b, arrV 2 k a b l, arrB k a b l] := by
  refine Eqn.gen [0, 1, 2] r_carray_Array_Get (by simp) (by simp) (by rfl) (by decide) (by simp [tsD]) (by simp [arrO, arrV, arrB, vecO, vecB]) ?_
  obtain ⟨w0, w16⟩ := wdR_le h
  have hg := pget_ok (wdR k a b) (encs k a b l) i (by simpa using hi) (by simpa using hn) w0 (by omega) (encs_small k a b l)
  have hwd := pwidth_ok (wdR k a b) (encs k a b l)
  rw [encs_get hi] at hg
  have hwi := wells_get hw hi
  generalize l.getD i (0, 0, false) = s at *
  obtain ⟨y, t, f⟩ := s
  simp only at hg hwi ⊢
  have hlt := encN_lt k a b y t f
  have h16 : 2 ^ wdR k a b ≤ 2 ^ 16 := Nat.pow_le_pow_right (by omega) w16
  have h3 := wnum0_ok (encN k a b y t f) (wdR k a b) w0 (by omega) hlt (by omega)
  rw [encN_bits] at h3
  have hne : encR k a b y t f ≠ [] := by simp [encR]
  have hel := encR_len k a b y t f
  have h4 := wbytes_ok (encR k a b y t f) hne (by rw [hel]; unfold wdR at w16; omega)
  have h5 := bread_ok (bytesOf (encR k a b y t f)) (by rw [bytesOf_len, hel]; unfold wdR at w16; omega)
  have h6 := rread_ok (bytesOf (encR k a b y t f)) (k := k) (a := a) (b := b) 0 h (smallB_bytes _) (by rw [bytesOf_len, hel]; unfold wdR at w16; omega) (Nat.zero_le _) _ rfl
  rw [readR_enc h hwi] at h6
  have hwlen : ((wordsP (wdR k a b) (encs k a b l)).map fun x : Nat => D.int .u64 x).length = nwP l.length (wdR k a b) := by simp
  have htk : ((wordsP (wdR k a b) (encs k a b l)).map fun x : Nat => D.int .u64 x).take (nwP l.length (wdR k a b)) = (wordsP (wdR k a b) (encs k a b l)).map fun x : Nat => D.int .u64 x := List.take_of_length_le (by simp)
  have hL0 : u64s (wordsP (wdR k a b) (encs k a b l)) = ((wordsP (wdR k a b) (encs k a b l)).map fun x : Nat => D.int .u64 x).map V.d := by simp [u64s]
  have hB0 : u8s (bytesOf (encR k a b y t f)) = ((bytesOf (encR k a b y t f)).map fun x : Nat => D.int .u8 x).map V.d := by simp [u8s]
  have hBt : ((bytesOf (encR k a b y t f)).map fun x : Nat => D.int .u8 x).take (bytesOf (encR k a b y t f)).length = (bytesOf (encR k a b y t f)).map fun x : Nat => D.int .u8 x := List.take_of_length_le (by simp)
  have hBl : (bytesOf (encR k a b y t f)).length = ((encR k a b y t f).length + 7) / 8 := by simp
  simp only [c_carray_Array_Get, arrO, arrV, arrB, vecO, vecB, vecD, encs_len, tsD, parD, rdO, BY, wrO, wrB] at hg hwd h3 h4 h5 h6 ⊢
  generalize encs k a b l = es at *
  generalize wordsP (wdR k a b) es = WS at *
  generalize encR k a b y t f = bs at *
  generalize bytesOf bs = bytes at *
  rw [← hBl] at h3 h4
  generalize hLL : (WS.map fun x : Nat => D.int .u64 x) = L0 at *
  generalize hBB : (bytes.map fun x : Nat => D.int .u8 x) = LB at *
  generalize encN k a b y t f = N at *
  generalize wdR k a b = w at *
  generalize nwP l.length w = NW at *
  repeat (first | refine AW.seq ?_ | refine AW.block ?_ | (refine AW.reg mix ?_; simp (implicitDefEqProofs := false); try simp (disch := omega) only [w64, wu64]) | (refine need.of (by first | omega | kernel_rfl) ?_) | (refine AW.fin ?_; try simp (implicitDefEqProofs := false)))
  refine CallS.ro [(2, 1, L0), (1, 1, [.sl NW L0, .int .i64 l.length, .int .i64 w])] (hg) ?_ (hok := by first | (simp [frzOK, frzH, hL0, htk]; done) | (simp [frzOK, frzH, hL0, htk]; rfl))
  (try (simp (implicitDefEqProofs := false); try simp (disch := omega) only [w64, wu64]))
  repeat (first | refine AW.seq ?_ | refine AW.block ?_ | (refine AW.reg mix ?_; simp (implicitDefEqProofs := false); try simp (disch := omega) only [w64, wu64]) | (refine need.of (by first | omega | kernel_rfl) ?_) | (refine AW.fin ?_; try simp (implicitDefEqProofs := false)))
  refine AW.cond rfl (fun h => ?_) (fun h => ?_)
  · simp at h
  repeat (first | refine AW.seq ?_ | refine AW.block ?_ | (refine AW.reg mix ?_; simp (implicitDefEqProofs := false); try simp (disch := omega) only [w64, wu64]) | (refine need.of (by first | omega | kernel_rfl) ?_) | (refine AW.fin ?_; try simp (implicitDefEqProofs := false)))
  refine CallS.ro [(2, 1, L0), (1, 1, [.sl NW L0, .int .i64 l.length, .int .i64 w])] (hwd) ?_ (hok := by first | (simp [frzOK, frzH, hL0, htk]; done) | (simp [frzOK, frzH, hL0, htk]; rfl))
  (try (simp (implicitDefEqProofs := false); try simp (disch := omega) only [w64, wu64]))
  repeat (first | refine AW.seq ?_ | refine AW.block ?_ | (refine AW.reg mix ?_; simp (implicitDefEqProofs := false); try simp (disch := omega) only [w64, wu64]) | (refine need.of (by first | omega | kernel_rfl) ?_) | (refine AW.fin ?_; try simp (implicitDefEqProofs := false)))
  refine CallS.g [4] (h3) ?_
  (try (simp (implicitDefEqProofs := false); try simp (disch := omega) only [w64, wu64]))
  repeat (first | refine AW.seq ?_ | refine AW.block ?_ | (refine AW.reg mix ?_; simp (implicitDefEqProofs := false); try simp (disch := omega) only [w64, wu64]) | (refine need.of (by first | omega | kernel_rfl) ?_) | (refine AW.fin ?_; try simp (implicitDefEqProofs := false)))
  refine CallS.g [4, 5] (h4) ?_
  (try (simp (implicitDefEqProofs := false); try simp (disch := omega) only [w64, wu64]))
  repeat (first | refine AW.seq ?_ | refine AW.block ?_ | (refine AW.reg mix ?_; simp (implicitDefEqProofs := false); try simp (disch := omega) only [w64, wu64]) | (refine need.of (by first | omega | kernel_rfl) ?_) | (refine AW.fin ?_; try simp (implicitDefEqProofs := false)))
  rw [hB0]
  have h5' : Eqn Tryz.prog n_bits_Read [.d (.sl bytes.length (List.take (bytes.length * 1) LB))] [] (.p 0 0) [⟨190, [.d (.sl bytes.length LB), .d (.int .i64 0)]⟩] := by rw [Nat.mul_one, hBt]; simpa using h5
  refine CallS.gf 6 1 ⟨5, LB.map V.d⟩ LB [] (h5') ?_
  (try (simp (implicitDefEqProofs := false); try simp (disch := omega) only [w64, wu64]))
  repeat (first | refine AW.seq ?_ | refine AW.block ?_ | (refine AW.reg mix ?_; simp (implicitDefEqProofs := false); try simp (disch := omega) only [w64, wu64]) | (refine need.of (by first | omega | kernel_rfl) ?_) | (refine AW.fin ?_; try simp (implicitDefEqProofs := false)))
  simp at h6
  refine CallS.g [7] (h6) ?_
  (try (simp (implicitDefEqProofs := false); try simp (disch := omega) only [w64, wu64]))
  repeat (first | refine AW.seq ?_ | refine AW.block ?_ | (refine AW.reg mix ?_; simp (implicitDefEqProofs := false); try simp (disch := omega) only [w64, wu64]) | (refine need.of (by first | omega | kernel_rfl) ?_) | (refine AW.fin ?_; try simp (implicitDefEqProofs := false)))
end
end Go.Proofs.YtdbfenhaljmbfaaGreat.Am
namespace Go.Proofs.YtdbfenhaljmbfaaGreat.Am
section
set_option linter.unusedVariables false
set_option linter.unusedSimpArgs false
open Go.RowKit
set_option maxRecDepth 100000
set_option linter.unusedSimpArgs false
set_option linter.unusedVariables false

theorem zeroS {k a b : Nat} (h : GoodR k a b) : WellR k a b 0 0 false := by
  rcases h with ⟨rfl, h⟩ | ⟨hk, h⟩
  · exact .inl ⟨rfl, Nat.zero_le _, Nat.zero_le _, by simp⟩
  · exact .inr ⟨hk, rfl, Nat.zero_le _, by simp⟩
theorem encN_zero (k a b : Nat) : encN k a b 0 0 false = 0 := by
  have h : ∀ w, bitsW 0 w = List.replicate w false := by
    intro w
    apply List.ext_getElem?
    intro i
    simp only [bitsW, List.getElem?_map, List.getElem?_replicate]
    by_cases h : i < w
    · rw [List.getElem?_range h, if_pos h]; simp
    · rw [List.getElem?_eq_none (by simp; omega), if_neg h]; rfl
  have hz : ∀ w n, numB (List.replicate w false) n = n * 2 ^ w := by
    intro w
    induction w with
    | zero => intro n; simp [numB]
    | succ w ih => intro n; rw [List.replicate_succ, numB, ih, Nat.pow_succ]; simp [b2n]; rw [Nat.mul_comm 2 n, Nat.mul_assoc, Nat.mul_comm 2]
  unfold encN encR
  rw [h, h, show [false] = List.replicate 1 false from rfl, numB_append, numB_append, hz, hz, hz]
  simp

set_option maxHeartbeats 1000000 in
theorem cset_ok {k a b : Nat} (l : List ST) (i : Nat) (y t : Nat) (f : Bool) (h : GoodR k a b) (hw : wells k a b l) (hi : i < l.length) (hn : l.length ≤ 256) (hs : WellR k a b y t f) :
    Eqn Tryz.prog n_carray_Array_Set [.p 0 0, .d (.int .i64 i), .d (tsD y t f)] [arrO 1 k a b, arrV 2 k a b l, arrB k a b l] (.d (.int .i64 0)) [arrO 1 k a b, arrV 2 k a b l, arrB k a b (l.set i (y, t, f))] := by
  refine Eqn.gen [0, 1, 2] r_carray_Array_Set (by simp) (by simp) (by rfl) (by decide) (by simp) (by simp [arrO, arrV, arrB, vecO, vecB]) ?_
  obtain ⟨w0, w16⟩ := wdR_le h
  have hg := pget_ok (wdR k a b) (encs k a b l) i (by simpa using hi) (by simpa using hn) w0 (by omega) (encs_small k a b l)
  generalize (encs k a b l).getD i 0 = was at hg
  have hwd := pwidth_ok (wdR k a b) (encs k a b l)
  have hlt := encN_lt k a b y t f
  have hps := pset_ok (wdR k a b) (encs k a b l) i (encN k a b y t f) (by simpa using hi) (by simpa using hn) w0 (by omega) hlt
  have hset := encs_set k a b l i (y, t, f)
  simp only at hset
  rw [hset] at hps
  have h16 : 2 ^ wdR k a b ≤ 2 ^ 16 := Nat.pow_le_pow_right (by omega) w16
  have h3 := rwrite0_ok h hs
  have hne : encR k a b y t f ≠ [] := by simp [encR]
  have hel := encR_len k a b y t f
  have h4 := wbytes_ok (encR k a b y t f) hne (by rw [hel]; unfold wdR at w16; omega)
  have h5 := bread_ok (bytesOf (encR k a b y t f)) (by rw [bytesOf_len, hel]; unfold wdR at w16; omega)
  have h6 := rnum_ok (bytesOf (encR k a b y t f)) 0 (wdR k a b) (smallB_bytes _) (by omega) (by rw [bytesOf_len, hel]; unfold wdR at w16; omega) (by rw [bytesOf_len, hel]; unfold wdR; omega)
  have h7 : numAt (bytesOf (encR k a b y t f)) 0 (wdR k a b) = encN k a b y t f := by
    unfold numAt encN
    rw [bitsOf_prefix _ _ _ (by rw [hel]; unfold wdR; omega), List.drop_zero, List.take_of_length_le (by rw [hel]; unfold wdR; omega)]
  rw [h7] at h6
  have htk : ((wordsP (wdR k a b) (encs k a b l)).map fun x : Nat => D.int .u64 x).take (nwP l.length (wdR k a b)) = (wordsP (wdR k a b) (encs k a b l)).map fun x : Nat => D.int .u64 x := List.take_of_length_le (by simp)
  have hL0 : u64s (wordsP (wdR k a b) (encs k a b l)) = ((wordsP (wdR k a b) (encs k a b l)).map fun x : Nat => D.int .u64 x).map V.d := by simp [u64s]
  have hB0 : u8s (bytesOf (encR k a b y t f)) = ((bytesOf (encR k a b y t f)).map fun x : Nat => D.int .u8 x).map V.d := by simp [u8s]
  have hBt : ((bytesOf (encR k a b y t f)).map fun x : Nat => D.int .u8 x).take (bytesOf (encR k a b y t f)).length = (bytesOf (encR k a b y t f)).map fun x : Nat => D.int .u8 x := List.take_of_length_le (by simp)
  have hBl : (bytesOf (encR k a b y t f)).length = ((encR k a b y t f).length + 7) / 8 := by simp
  simp only [c_carray_Array_Set, arrO, arrV, arrB, vecO, vecB, vecD, encs_len, List.length_set, tsD, parD, rdO, BY, wrO, wrB] at hg hwd hps h3 h4 h5 h6 ⊢
  generalize encs k a b (l.set i (y, t, f)) = es' at *
  generalize hWS' : wordsP (wdR k a b) es' = WS' at *
  generalize encs k a b l = es at *
  generalize hWS : wordsP (wdR k a b) es = WS at *
  generalize encR k a b y t f = bs at *
  generalize bytesOf bs = bytes at *
  rw [← hBl] at h3 h4
  generalize hLL : (WS.map fun x : Nat => D.int .u64 x) = L0 at *
  generalize hBB : (bytes.map fun x : Nat => D.int .u8 x) = LB at *
  generalize encN k a b y t f = N at *
  generalize wdR k a b = w at *
  generalize nwP l.length w = NW at *
  have h5' : Eqn Tryz.prog n_bits_Read [.d (.sl bytes.length (List.take (bytes.length * 1) LB))] [] (.p 0 0) [⟨190, [.d (.sl bytes.length LB), .d (.int .i64 0)]⟩] := by rw [Nat.mul_one, hBt]; simpa using h5
  simp at h6
  repeat (first | refine AW.seq ?_ | refine AW.block ?_ | (refine AW.reg mix ?_; simp (implicitDefEqProofs := false); try simp (disch := omega) only [w64, wu64]) | (refine need.of (by first | omega | kernel_rfl) ?_) | (refine AW.fin ?_; try simp (implicitDefEqProofs := false)))
  refine CallS.ro [(2, 1, L0), (1, 1, [.sl NW L0, .int .i64 l.length, .int .i64 w])] (hg) ?_ (hok := by first | (simp [frzOK, frzH, hL0, htk]; done) | (simp [frzOK, frzH, hL0, htk]; rfl))
  (try (simp (implicitDefEqProofs := false); try simp (disch := omega) only [w64, wu64]))
  repeat (first | refine AW.seq ?_ | refine AW.block ?_ | (refine AW.reg mix ?_; simp (implicitDefEqProofs := false); try simp (disch := omega) only [w64, wu64]) | (refine need.of (by first | omega | kernel_rfl) ?_) | (refine AW.fin ?_; try simp (implicitDefEqProofs := false)))
  refine AW.cond rfl (fun h => ?_) (fun h => ?_)
  · simp at h
  repeat (first | refine AW.seq ?_ | refine AW.block ?_ | (refine AW.reg mix ?_; simp (implicitDefEqProofs := false); try simp (disch := omega) only [w64, wu64]) | (refine need.of (by first | omega | kernel_rfl) ?_) | (refine AW.fin ?_; try simp (implicitDefEqProofs := false)))
  refine CallS.g [4] (h3) ?_
  (try (simp (implicitDefEqProofs := false); try simp (disch := omega) only [w64, wu64]))
  repeat (first | refine AW.seq ?_ | refine AW.block ?_ | (refine AW.reg mix ?_; simp (implicitDefEqProofs := false); try simp (disch := omega) only [w64, wu64]) | (refine need.of (by first | omega | kernel_rfl) ?_) | (refine AW.fin ?_; try simp (implicitDefEqProofs := false)))
  refine AW.cond rfl (fun h => ?_) (fun h => ?_)
  · simp at h
  repeat (first | refine AW.seq ?_ | refine AW.block ?_ | (refine AW.reg mix ?_; simp (implicitDefEqProofs := false); try simp (disch := omega) only [w64, wu64]) | (refine need.of (by first | omega | kernel_rfl) ?_) | (refine AW.fin ?_; try simp (implicitDefEqProofs := false)))
  refine CallS.g [4, 5] (h4) ?_
  (try (simp (implicitDefEqProofs := false); try simp (disch := omega) only [w64, wu64]))
  repeat (first | refine AW.seq ?_ | refine AW.block ?_ | (refine AW.reg mix ?_; simp (implicitDefEqProofs := false); try simp (disch := omega) only [w64, wu64]) | (refine need.of (by first | omega | kernel_rfl) ?_) | (refine AW.fin ?_; try simp (implicitDefEqProofs := false)))
  rw [hB0]
  refine CallS.gf 6 1 ⟨5, LB.map V.d⟩ LB [] (h5') ?_
  (try (simp (implicitDefEqProofs := false); try simp (disch := omega) only [w64, wu64]))
  repeat (first | refine AW.seq ?_ | refine AW.block ?_ | (refine AW.reg mix ?_; simp (implicitDefEqProofs := false); try simp (disch := omega) only [w64, wu64]) | (refine need.of (by first | omega | kernel_rfl) ?_) | (refine AW.fin ?_; try simp (implicitDefEqProofs := false)))
  refine CallS.ro [(2, 1, L0), (1, 1, [.sl NW L0, .int .i64 l.length, .int .i64 w])] (hwd) ?_ (hok := by first | (simp [frzOK, frzH, hL0, htk]; done) | (simp [frzOK, frzH, hL0, htk]; rfl))
  (try (simp (implicitDefEqProofs := false); try simp (disch := omega) only [w64, wu64]))
  repeat (first | refine AW.seq ?_ | refine AW.block ?_ | (refine AW.reg mix ?_; simp (implicitDefEqProofs := false); try simp (disch := omega) only [w64, wu64]) | (refine need.of (by first | omega | kernel_rfl) ?_) | (refine AW.fin ?_; try simp (implicitDefEqProofs := false)))
  refine CallS.g [7] (h6) ?_
  (try (simp (implicitDefEqProofs := false); try simp (disch := omega) only [w64, wu64]))
  repeat (first | refine AW.seq ?_ | refine AW.block ?_ | (refine AW.reg mix ?_; simp (implicitDefEqProofs := false); try simp (disch := omega) only [w64, wu64]) | (refine need.of (by first | omega | kernel_rfl) ?_) | (refine AW.fin ?_; try simp (implicitDefEqProofs := false)))
  refine CallS.g [1, 2] (hps) ?_
  (try (simp (implicitDefEqProofs := false); try simp (disch := omega) only [w64, wu64]))
  repeat (first | refine AW.seq ?_ | refine AW.block ?_ | (refine AW.reg mix ?_; simp (implicitDefEqProofs := false); try simp (disch := omega) only [w64, wu64]) | (refine need.of (by first | omega | kernel_rfl) ?_) | (refine AW.fin ?_; try simp (implicitDefEqProofs := false)))
end
end Go.Proofs.YtdbfenhaljmbfaaGreat.Am
namespace Go.Proofs.YtdbfenhaljmbfaaGreat.Am
section
set_option linter.unusedVariables false
set_option linter.unusedSimpArgs false
open Go.RowKit
set_option maxRecDepth 100000
set_option linter.unusedSimpArgs false
set_option linter.unusedVariables false

theorem wells_rep {k a b : Nat} (h : GoodR k a b) (n : Nat) : wells k a b (List.replicate n (0, 0, false)) := by
  intro s hs
  rw [List.eq_of_mem_replicate hs]; exact zeroS h
theorem wells_set {k a b : Nat} {l : List ST} (h : wells k a b l) (i : Nat) {s : ST} (hs : WellR k a b s.1 s.2.1 s.2.2) : wells k a b (l.set i s) := by
  intro x hx
  rcases List.mem_or_eq_of_mem_set hx with hx | rfl
  · exact h x hx
  · exact hs

theorem cnew_ok {k a b : Nat} (n : Nat) (h : GoodR k a b) (h1 : 1 ≤ n) (hn : n ≤ 256) :
    Eqn Tryz.prog n_carray_New [.d (parD k a b), .d (.int .i64 n)] [] (.tup [.p 0 0, .d (.int .i64 0)]) [arrO 1 k a b, arrV 2 k a b (List.replicate n (0, 0, false)), arrB k a b (List.replicate n (0, 0, false))] := by
  refine Eqn.gen [3, 1, 2] r_carray_New (by simp) (by simp) (by rfl) (by decide) (by simp) (by simp [arrO, arrV, arrB, vecO, vecB]) ?_
  obtain ⟨w0, w16⟩ := wdR_le h
  have hc := rcheck_ok h
  have hb := rbits_ok h
  have hp := pnew_ok n (wdR k a b) hn w0 (by omega)
  have he : encs k a b (List.replicate n (0, 0, false)) = List.replicate n 0 := by simp [encs, encN_zero]
  have g1 : ¬ (n : Int) < 1 := by omega
  have g2 : ¬ (256 : Int) < n := by omega
  rw [show kwR k a b + twR k b + 1 = wdR k a b from rfl] at hb
  simp only [c_carray_New, arrO, arrV, arrB, vecO, vecB, parD, he, List.length_replicate] at hc hb hp ⊢
  generalize wdR k a b = w at *
  generalize wordsP w (List.replicate n 0) = WS at *
  generalize nwP n w = NW at *
  repeat (first | refine AW.seq ?_ | refine AW.block ?_ | (refine AW.reg mix ?_; simp (implicitDefEqProofs := false); try simp (disch := omega) only [w64, wu64]) | (refine need.of (by first | omega | kernel_rfl) ?_) | (refine AW.fin ?_; try simp (implicitDefEqProofs := false)))
  refine CallS.pu (hc) ?_
  (try (simp (implicitDefEqProofs := false) [g1, g2]; try simp (disch := omega) only [w64, wu64]))
  repeat (first | refine AW.seq ?_ | refine AW.block ?_ | (refine AW.reg mix ?_; simp (implicitDefEqProofs := false) [g1, g2]; try simp (disch := omega) only [w64, wu64]) | (refine need.of (by first | omega | kernel_rfl) ?_) | (refine AW.fin ?_; try simp (implicitDefEqProofs := false) [g1, g2]))
  refine AW.cond rfl (fun h => ?_) (fun h => ?_)
  · simp at h
  repeat (first | refine AW.seq ?_ | refine AW.block ?_ | (refine AW.reg mix ?_; simp (implicitDefEqProofs := false); try simp (disch := omega) only [w64, wu64]) | (refine need.of (by first | omega | kernel_rfl) ?_) | (refine AW.fin ?_; try simp (implicitDefEqProofs := false)))
  refine CallS.pu (hb) ?_
  (try (simp (implicitDefEqProofs := false); try simp (disch := omega) only [w64, wu64]))
  repeat (first | refine AW.seq ?_ | refine AW.block ?_ | (refine AW.reg mix ?_; simp (implicitDefEqProofs := false); try simp (disch := omega) only [w64, wu64]) | (refine need.of (by first | omega | kernel_rfl) ?_) | (refine AW.fin ?_; try simp (implicitDefEqProofs := false)))
  refine CallS.g [] (hp) ?_
  (try (simp (implicitDefEqProofs := false); try simp (disch := omega) only [w64, wu64]))
  repeat (first | refine AW.seq ?_ | refine AW.block ?_ | (refine AW.reg mix ?_; simp (implicitDefEqProofs := false); try simp (disch := omega) only [w64, wu64]) | (refine need.of (by first | omega | kernel_rfl) ?_) | (refine AW.fin ?_; try simp (implicitDefEqProofs := false)))
  refine AW.cond rfl (fun h => ?_) (fun h => ?_)
  · simp at h
  repeat (first | refine AW.seq ?_ | refine AW.block ?_ | (refine AW.reg mix ?_; simp (implicitDefEqProofs := false); try simp (disch := omega) only [w64, wu64]) | (refine need.of (by first | omega | kernel_rfl) ?_) | (refine AW.fin ?_; try simp (implicitDefEqProofs := false)))

theorem cadd_int {k a b : Nat} (cs : List Bool) (l : List ST) (i n p : Nat) (m : Int) (hmx : max 0 m = (n : Int)) (d : Bool) (h : GoodR k a b) (hw : wells k a b l) (hi : i < l.length) (hn : l.length ≤ 256) (hnn : m ≤ 1048576) (hp : p ≤ cs.length) (hc : cs.length ≤ 4000000) (R : TR) (hR : R = addRM cs k a b n (l.getD i (0, 0, false)).1 (l.getD i (0, 0, false)).2.1 (l.getD i (0, 0, false)).2.2 p d) :
    Eqn Tryz.prog n_carray_Array_Add [.p 0 0, .p 3 0, .d (.int .i64 i), .d (.int .i64 m)] [arrO 1 k a b, arrV 2 k a b l, arrB k a b l, tapeO cs p d] (.d (.int .i64 R.e)) [arrO 1 k a b, arrV 2 k a b l, arrB k a b (if R.e = 0 then l.set i (R.y, R.t, R.f) else l), tapeO cs R.p R.d] := by
  refine Eqn.gen [0, 1, 2, 3] r_carray_Array_Add (by simp) (by simp) (by rfl) (by decide) (by simp) (by simp [arrO, arrV, arrB, vecO, vecB, tapeO]) ?_
  have hg := cget_ok l i h hw hi hn
  have hwi := wells_get hw hi
  generalize l.getD i (0, 0, false) = s at *
  obtain ⟨y, t, f⟩ := s
  simp only at hR hg hwi
  have ha := radd_int cs k a b y t f n m hmx p d h hwi hnn hp hc R hR
  have hww := addRM_well (cs := cs) (n := n) (y := y) (t := t) (f := f) (p := p) (d := d) h hwi hp hc
  rw [← hR] at hww
  clear hR
  obtain ⟨e, ry, rt, rf, rp, rd⟩ := R
  simp only at hww ⊢
  by_cases he : e = 0
  · subst he
    have hs := cset_ok l i ry rt rf h hw hi hn (hww.2 rfl)
    simp only [c_carray_Array_Add, arrO, arrV, arrB, vecO, vecB, parD, tsD, stR, if_true, List.length_set, encs_len] at hg ha hs ⊢
    generalize wordsP (wdR k a b) (encs k a b (l.set i (ry, rt, rf))) = WS' at *
    generalize wordsP (wdR k a b) (encs k a b l) = WS at *
    generalize nwP l.length (wdR k a b) = NW at *
    repeat (first | refine AW.seq ?_ | refine AW.block ?_ | (refine AW.reg mix ?_; simp (implicitDefEqProofs := false) [-Bool.exists_bool]; try simp (disch := omega) only [w64, wu64]) | (refine need.of (by first | omega | kernel_rfl) ?_) | (refine AW.fin ?_; try simp (implicitDefEqProofs := false) [-Bool.exists_bool]))
    refine CallS.g [0, 1, 2] (hg) ?_
    (try (simp (implicitDefEqProofs := false) [-Bool.exists_bool]; try simp (disch := omega) only [w64, wu64]))
    repeat (first | refine AW.seq ?_ | refine AW.block ?_ | (refine AW.reg mix ?_; simp (implicitDefEqProofs := false) [-Bool.exists_bool]; try simp (disch := omega) only [w64, wu64]) | (refine need.of (by first | omega | kernel_rfl) ?_) | (refine AW.fin ?_; try simp (implicitDefEqProofs := false) [-Bool.exists_bool]))
    refine AW.cond rfl (fun h => ?_) (fun h => ?_)
    · simp at h
    repeat (first | refine AW.seq ?_ | refine AW.block ?_ | (refine AW.reg mix ?_; simp (implicitDefEqProofs := false) [-Bool.exists_bool]; try simp (disch := omega) only [w64, wu64]) | (refine need.of (by first | omega | kernel_rfl) ?_) | (refine AW.fin ?_; try simp (implicitDefEqProofs := false) [-Bool.exists_bool]))
    refine CallS.o1 3 (ha) ?_
    (try (simp (implicitDefEqProofs := false) [-Bool.exists_bool]; try simp (disch := omega) only [w64, wu64]))
    repeat (first | refine AW.seq ?_ | refine AW.block ?_ | (refine AW.reg mix ?_; simp (implicitDefEqProofs := false) [-Bool.exists_bool]; try simp (disch := omega) only [w64, wu64]) | (refine need.of (by first | omega | kernel_rfl) ?_) | (refine AW.fin ?_; try simp (implicitDefEqProofs := false) [-Bool.exists_bool]))
    refine AW.cond rfl (fun h => ?_) (fun h => ?_)
    · simp at h
    repeat (first | refine AW.seq ?_ | refine AW.block ?_ | (refine AW.reg mix ?_; simp (implicitDefEqProofs := false) [-Bool.exists_bool]; try simp (disch := omega) only [w64, wu64]) | (refine need.of (by first | omega | kernel_rfl) ?_) | (refine AW.fin ?_; try simp (implicitDefEqProofs := false) [-Bool.exists_bool]))
    refine CallS.g [0, 1, 2] (hs) ?_
    (try (simp (implicitDefEqProofs := false) [-Bool.exists_bool]; try simp (disch := omega) only [w64, wu64]))
    repeat (first | refine AW.seq ?_ | refine AW.block ?_ | (refine AW.reg mix ?_; simp (implicitDefEqProofs := false) [-Bool.exists_bool]; try simp (disch := omega) only [w64, wu64]) | (refine need.of (by first | omega | kernel_rfl) ?_) | (refine AW.fin ?_; try simp (implicitDefEqProofs := false) [-Bool.exists_bool]))
  · simp only [c_carray_Array_Add, arrO, arrV, arrB, vecO, vecB, parD, tsD, stR, if_neg he, encs_len] at hg ha ⊢
    generalize wordsP (wdR k a b) (encs k a b l) = WS at *
    generalize nwP l.length (wdR k a b) = NW at *
    repeat (first | refine AW.seq ?_ | refine AW.block ?_ | (refine AW.reg mix ?_; simp (implicitDefEqProofs := false) [-Bool.exists_bool]; try simp (disch := omega) only [w64, wu64]) | (refine need.of (by first | omega | kernel_rfl) ?_) | (refine AW.fin ?_; try simp (implicitDefEqProofs := false) [-Bool.exists_bool]))
    refine CallS.g [0, 1, 2] (hg) ?_
    (try (simp (implicitDefEqProofs := false) [-Bool.exists_bool]; try simp (disch := omega) only [w64, wu64]))
    repeat (first | refine AW.seq ?_ | refine AW.block ?_ | (refine AW.reg mix ?_; simp (implicitDefEqProofs := false) [-Bool.exists_bool]; try simp (disch := omega) only [w64, wu64]) | (refine need.of (by first | omega | kernel_rfl) ?_) | (refine AW.fin ?_; try simp (implicitDefEqProofs := false) [-Bool.exists_bool]))
    refine AW.cond rfl (fun h => ?_) (fun h => ?_)
    · simp at h
    repeat (first | refine AW.seq ?_ | refine AW.block ?_ | (refine AW.reg mix ?_; simp (implicitDefEqProofs := false) [-Bool.exists_bool]; try simp (disch := omega) only [w64, wu64]) | (refine need.of (by first | omega | kernel_rfl) ?_) | (refine AW.fin ?_; try simp (implicitDefEqProofs := false) [-Bool.exists_bool]))
    refine CallS.o1 3 (ha) ?_
    (try (simp (implicitDefEqProofs := false) [-Bool.exists_bool]; try simp (disch := omega) only [w64, wu64]))
    repeat (first | refine AW.seq ?_ | refine AW.block ?_ | (refine AW.reg mix ?_; simp (implicitDefEqProofs := false) [-Bool.exists_bool]; try simp (disch := omega) only [w64, wu64]) | (refine need.of (by first | omega | kernel_rfl) ?_) | (refine AW.fin ?_; try simp (implicitDefEqProofs := false) [-Bool.exists_bool]))
    refine AW.cond rfl (fun h => ?_) (fun h => ?_)
    · repeat (first | refine AW.seq ?_ | refine AW.block ?_ | (refine AW.reg mix ?_; simp (implicitDefEqProofs := false) [-Bool.exists_bool]; try simp (disch := omega) only [w64, wu64]) | (refine need.of (by first | omega | kernel_rfl) ?_) | (refine AW.fin ?_; try simp (implicitDefEqProofs := false) [-Bool.exists_bool]))
    · simp [he] at h
end
end Go.Proofs.YtdbfenhaljmbfaaGreat.Am
namespace Go.Proofs.YtdbfenhaljmbfaaGreat.Am
section
set_option linter.unusedVariables false
set_option linter.unusedSimpArgs false
open Go.RowKit
set_option maxRecDepth 100000
set_option linter.unusedSimpArgs false
set_option linter.unusedVariables false

theorem clone64_new (ws : List Nat) (h0 : 0 < ws.length) (hn : ws.length ≤ 4000000) : Eqn Tryz.prog n_slices_Clone_uint64_uint64 [.own 0 1 ws.length] [⟨80, u64s ws⟩] (.own 1 1 ws.length) [⟨80, u64s ws⟩, ⟨80, u64s ws⟩] := by
  refine Eqn.gen [0, 1] r_slices_Clone_uint64_uint64 (by simp) (by simp) (by rfl) (by decide) (by simp) (by simp) ?_
  have hl : (u64s ws).take ws.length = u64s ws := List.take_of_length_le (by simp [u64s])
  have h0' : ws.length ≠ 0 := by omega
  simp only [c_slices_Clone_uint64_uint64]
  repeat (first | refine AW.seq ?_ | refine AW.block ?_ | (refine AW.reg mix ?_; simp (implicitDefEqProofs := false); try simp (disch := omega) only [w64, wu64]) | (refine need.of (by first | omega | kernel_rfl) ?_) | (refine AW.fin ?_; try simp (implicitDefEqProofs := false)))
  refine AW.cond rfl (fun h => ?_) (fun h => ?_)
  · simp at h
  · repeat (first | refine AW.seq ?_ | refine AW.block ?_ | (refine AW.reg mix ?_; simp (implicitDefEqProofs := false) [hl, h0', u64s_length]; try simp (disch := omega) only [w64, wu64]) | (refine need.of (by first | omega | kernel_rfl) ?_) | (refine AW.fin ?_; try simp (implicitDefEqProofs := false) [hl, h0', u64s_length]))

/-- the words of two rows: the same? -/
theorem equal64_ok (ws vs : List Nat) (hn : ws.length ≤ 4000000) (hm : vs.length ≤ 4000000) : Eqn Tryz.prog n_slices_Equal_uint64_uint64 [.d (.sl ws.length (ws.map fun x : Nat => D.int .u64 x)), .d (.sl vs.length (vs.map fun x : Nat => D.int .u64 x))] [] (.d (.bool (decide (ws = vs)))) [] := by
  refine Eqn.pure r_slices_Equal_uint64_uint64 Plain.ok ?_
  simp only [c_slices_Equal_uint64_uint64]
  by_cases hl : ws.length = vs.length
  · have hlp : (ws.length : Int) = vs.length := by omega
    repeat (first | refine AW.seq ?_ | refine AW.block ?_ | (refine AW.reg mix ?_; simp (implicitDefEqProofs := false) [hlp]; try simp (disch := omega) only [w64, wu64]) | (refine need.of (by first | omega | kernel_rfl) ?_) | (refine AW.fin ?_; try simp (implicitDefEqProofs := false) [hlp]))
    refine AW.cond rfl (fun h => ?_) (fun h => ?_)
    · simp [hlp] at h
    repeat (first | refine AW.seq ?_ | refine AW.block ?_ | (refine AW.reg mix ?_; simp (implicitDefEqProofs := false) [hlp]; try simp (disch := omega) only [w64, wu64]) | (refine need.of (by first | omega | kernel_rfl) ?_) | (refine AW.fin ?_; try simp (implicitDefEqProofs := false) [hlp]))
    refine AW.loopT (α := Nat) 0 (fun s => [(13, .d (.int .i64 (s : Int)))]) (fun s => []) (fun s => s ≤ ws.length ∧ ws.take s = vs.take s) (fun s => ws.length - s) 0 ?_ ?_ ⟨Nat.zero_le _, by simp⟩ ?_ ?_ ?_
    · simp
    · simp
    · simp
    · simp
    rintro i ⟨hi, he⟩
    simp
    by_cases hi' : i < ws.length
    · have h1 : (i : Int) < ws.length := by omega
      have h1v : (i : Int) < vs.length := by omega
      have hiv : i < vs.length := by omega
      have ew : IntKind.i64.wrap ((i : Int) + 1) = ((i + 1 : Nat) : Int) := by rw [w64 (by omega) (by omega)]; omega
      repeat (first | refine AW.seq ?_ | refine AW.block ?_ | (refine AW.reg mix ?_; simp (implicitDefEqProofs := false) [hi', h1, h1v, hiv, hlp]; try simp (disch := omega) only [w64, wu64]) | (refine need.of (by first | omega | kernel_rfl) ?_) | (refine AW.fin ?_; try simp (implicitDefEqProofs := false) [hi', h1, h1v, hiv, hlp]))
      refine AW.cond rfl (fun h => ?_) (fun h => ?_)
      · clear h
        repeat (first | refine AW.seq ?_ | refine AW.block ?_ | (refine AW.reg mix ?_; simp (implicitDefEqProofs := false) [hi', h1, h1v, hiv, hlp]; try simp (disch := omega) only [w64, wu64]) | (refine need.of (by first | omega | kernel_rfl) ?_) | (refine AW.fin ?_; try simp (implicitDefEqProofs := false) [hi', h1, h1v, hiv, hlp]))
        refine AW.cond rfl (fun h => ?_) (fun h => ?_)
        · repeat (first | refine AW.seq ?_ | refine AW.block ?_ | (refine AW.reg mix ?_; simp (implicitDefEqProofs := false); try simp (disch := omega) only [w64, wu64]) | (refine need.of (by first | omega | kernel_rfl) ?_) | (refine AW.fin ?_; try simp (implicitDefEqProofs := false)))
          refine Sub1.bool ?_
          rw [eq_comm, decide_eq_false_iff_not]
          rintro rfl
          simp at h
        · have hgg : ws[i] = vs[i] := by simp at h; exact Int.ofNat.inj h
          repeat (first | refine AW.seq ?_ | refine AW.block ?_ | (refine AW.reg mix ?_; simp (implicitDefEqProofs := false) [ew]; try simp (disch := omega) only [w64, wu64]) | (refine need.of (by first | omega | kernel_rfl) ?_) | (refine AW.fin ?_; try simp (implicitDefEqProofs := false) [ew]))
          (try (simp (implicitDefEqProofs := false) [ew]; try simp (disch := omega) only [w64, wu64]))
          repeat (first | refine AW.seq ?_ | refine AW.block ?_ | (refine AW.reg mix ?_; simp (implicitDefEqProofs := false) [ew]; try simp (disch := omega) only [w64, wu64]) | (refine need.of (by first | omega | kernel_rfl) ?_) | (refine AW.fin ?_; try simp (implicitDefEqProofs := false) [ew]))
          refine ⟨i + 1, ⟨by omega, ?_⟩, by omega, by simp⟩
          rw [List.take_add_one, List.take_add_one, he, List.getElem?_eq_getElem hi', List.getElem?_eq_getElem hiv, hgg]
      · simp [hi', h1, h1v, hiv, hlp] at h
    · have hi2 : i = ws.length := by omega
      subst hi2
      repeat (first | refine AW.seq ?_ | refine AW.block ?_ | (refine AW.reg mix ?_; simp (implicitDefEqProofs := false) [hlp]; try simp (disch := omega) only [w64, wu64]) | (refine need.of (by first | omega | kernel_rfl) ?_) | (refine AW.fin ?_; try simp (implicitDefEqProofs := false) [hlp]))
      refine AW.cond rfl (fun h => ?_) (fun h => ?_)
      · simp [hlp] at h
      refine AW.exit ?_
      (try (simp (implicitDefEqProofs := false); try simp (disch := omega) only [w64, wu64]))
      repeat (first | refine AW.seq ?_ | refine AW.block ?_ | (refine AW.reg mix ?_; simp (implicitDefEqProofs := false) [hlp]; try simp (disch := omega) only [w64, wu64]) | (refine need.of (by first | omega | kernel_rfl) ?_) | (refine AW.fin ?_; try simp (implicitDefEqProofs := false) [hlp]))
      refine Sub1.bool ?_
      rw [eq_comm, decide_eq_true_iff]
      rwa [List.take_length, hl, List.take_length] at he
  · have hlp : ¬ (ws.length : Int) = vs.length := by omega
    repeat (first | refine AW.seq ?_ | refine AW.block ?_ | (refine AW.reg mix ?_; simp (implicitDefEqProofs := false) [hlp]; try simp (disch := omega) only [w64, wu64]) | (refine need.of (by first | omega | kernel_rfl) ?_) | (refine AW.fin ?_; try simp (implicitDefEqProofs := false) [hlp]))
    refine AW.cond rfl (fun h => ?_) (fun h => ?_)
    · repeat (first | refine AW.seq ?_ | refine AW.block ?_ | (refine AW.reg mix ?_; simp (implicitDefEqProofs := false); try simp (disch := omega) only [w64, wu64]) | (refine need.of (by first | omega | kernel_rfl) ?_) | (refine AW.fin ?_; try simp (implicitDefEqProofs := false)))
      refine Sub1.bool ?_
      rw [eq_comm, decide_eq_false_iff_not]
      rintro rfl
      exact hl rfl
    · simp [hlp] at h

theorem pclone_ok (w : Nat) (xs : List Nat) (h0 : 0 < nwP xs.length w) (hn : nwP xs.length w ≤ 4000000) :
    Eqn Tryz.prog n_pack_Vector_Clone [.p 0 0] [vecO 1 xs.length w, vecB w xs] (.p 2 0) [vecO 1 xs.length w, vecB w xs, vecO 3 xs.length w, vecB w xs] := by
  refine Eqn.gen [0, 1, 3, 2] r_pack_Vector_Clone (by simp) (by simp) (by rfl) (by decide) (by simp) (by simp [vecO, vecB]) ?_
  have hc := clone64_new (wordsP w xs) (by simpa using h0) (by simpa using hn)
  have hlen := wordsP_len w xs
  simp only [c_pack_Vector_Clone, vecO, vecB] at hc ⊢
  generalize wordsP w xs = ws at *
  rw [hlen] at hc
  generalize nwP xs.length w = NW at *
  repeat (first | refine AW.seq ?_ | refine AW.block ?_ | (refine AW.reg mix ?_; simp (implicitDefEqProofs := false); try simp (disch := omega) only [w64, wu64]) | (refine need.of (by first | omega | kernel_rfl) ?_) | (refine AW.fin ?_; try simp (implicitDefEqProofs := false)))
  refine CallS.g [1] (hc) ?_
  (try (simp (implicitDefEqProofs := false); try simp (disch := omega) only [w64, wu64]))
  repeat (first | refine AW.seq ?_ | refine AW.block ?_ | (refine AW.reg mix ?_; simp (implicitDefEqProofs := false); try simp (disch := omega) only [w64, wu64]) | (refine need.of (by first | omega | kernel_rfl) ?_) | (refine AW.fin ?_; try simp (implicitDefEqProofs := false)))

theorem psame_ok (w v : Nat) (xs ys : List Nat) (h1 : nwP xs.length w ≤ 4000000) (h2 : nwP ys.length v ≤ 4000000) :
    Eqn Tryz.prog n_pack_Vector_Same [.ia (vecD w xs) 0, .ia (vecD v ys) 0] [] (.d (.bool (decide (xs.length = ys.length ∧ w = v ∧ wordsP w xs = wordsP v ys)))) [] := by
  refine Eqn.pure r_pack_Vector_Same Plain.ok ?_
  have he := equal64_ok (wordsP w xs) (wordsP v ys) (by simpa using h1) (by simpa using h2)
  simp only [wordsP_len] at he
  simp only [c_pack_Vector_Same, vecD]
  generalize wordsP w xs = ws at *
  generalize wordsP v ys = vs at *
  by_cases hl : xs.length = ys.length
  · have hlp : (xs.length : Int) = ys.length := by omega
    by_cases hw : w = v
    · subst hw
      repeat (first | refine AW.seq ?_ | refine AW.block ?_ | (refine AW.reg mix ?_; simp (implicitDefEqProofs := false) [hlp]; try simp (disch := omega) only [w64, wu64]) | (refine need.of (by first | omega | kernel_rfl) ?_) | (refine AW.fin ?_; try simp (implicitDefEqProofs := false) [hlp]))
      refine CallS.pu (he) ?_
      (try (simp (implicitDefEqProofs := false) [hlp]; try simp (disch := omega) only [w64, wu64]))
      repeat (first | refine AW.seq ?_ | refine AW.block ?_ | (refine AW.reg mix ?_; simp (implicitDefEqProofs := false) [hlp]; try simp (disch := omega) only [w64, wu64]) | (refine need.of (by first | omega | kernel_rfl) ?_) | (refine AW.fin ?_; try simp (implicitDefEqProofs := false) [hlp]))
      exact Sub1.bool (by simp [hl])
    · have hwp : ¬ (w : Int) = v := by omega
      repeat (first | refine AW.seq ?_ | refine AW.block ?_ | (refine AW.reg mix ?_; simp (implicitDefEqProofs := false) [hlp, hw, hwp]; try simp (disch := omega) only [w64, wu64]) | (refine need.of (by first | omega | kernel_rfl) ?_) | (refine AW.fin ?_; try simp (implicitDefEqProofs := false) [hlp, hw, hwp]))
  · have hlp : ¬ (xs.length : Int) = ys.length := by omega
    repeat (first | refine AW.seq ?_ | refine AW.block ?_ | (refine AW.reg mix ?_; simp (implicitDefEqProofs := false) [hlp, hl]; try simp (disch := omega) only [w64, wu64]) | (refine need.of (by first | omega | kernel_rfl) ?_) | (refine AW.fin ?_; try simp (implicitDefEqProofs := false) [hlp, hl]))

/-- the state that a register's bits are -/
theorem encN_inj {k a b : Nat} {s r : ST} (hg : GoodR k a b) (hs : WellR k a b s.1 s.2.1 s.2.2) (hr : WellR k a b r.1 r.2.1 r.2.2) (h : encN k a b s.1 s.2.1 s.2.2 = encN k a b r.1 r.2.1 r.2.2) : s = r := by
  have h1 := encN_bits k a b s.1 s.2.1 s.2.2
  rw [h, encN_bits] at h1
  have h2 := readR_enc hg hs
  rw [← h1, readR_enc hg hr] at h2
  have := congrArg Prod.fst h2
  simp only at this
  exact this.symm
theorem encs_inj {k a b : Nat} (hg : GoodR k a b) : ∀ {l m : List ST}, wells k a b l → wells k a b m → encs k a b l = encs k a b m → l = m
  | [], [], _, _, _ => rfl
  | [], _ :: _, _, _, h => by simp [encs] at h
  | _ :: _, [], _, _, h => by simp [encs] at h
  | s :: l, r :: m, h1, h2, h => by
    simp only [encs, List.map_cons, List.cons.injEq] at h
    rw [encN_inj hg (h1 s (by simp)) (h2 r (by simp)) h.1, encs_inj hg (fun x hx => h1 x (by simp [hx])) (fun x hx => h2 x (by simp [hx])) h.2]
theorem wordsP_inj {w : Nat} {xs ys : List Nat} (hw0 : 0 < w) (hl : xs.length = ys.length) (hx : smallP w xs) (hy : smallP w ys) (h : wordsP w xs = wordsP w ys) : xs = ys := by
  have hb : ∀ k, k < xs.length * w → bitX w xs k = bitX w ys k := by
    intro k hk
    have hj : k / 64 < nwP xs.length w := by unfold nwP; omega
    have h1 := wordsP_bit (w := w) (xs := xs) hj (Nat.mod_lt k (by omega : 0 < 64))
    have h2 := wordsP_bit (w := w) (xs := ys) (by rw [← hl]; exact hj) (Nat.mod_lt k (by omega : 0 < 64))
    rw [Nat.div_add_mod] at h1 h2
    rw [← h1, ← h2, h]
  apply List.ext_getElem? 
  intro i
  by_cases hi : i < xs.length
  · have e : xs.getD i 0 = ys.getD i 0 := by
      apply Nat.eq_of_testBit_eq
      intro b
      by_cases hbw : b < w
      · rw [← bitX_at hbw, ← bitX_at hbw]
        apply hb
        calc i * w + b < i * w + w := by omega
          _ = (i + 1) * w := by rw [Nat.succ_mul]
          _ ≤ xs.length * w := Nat.mul_le_mul_right _ hi
      · rw [Nat.testBit_lt_two_pow (Nat.lt_of_lt_of_le (smallP_get hx i) (Nat.pow_le_pow_right (by omega) (by omega))), Nat.testBit_lt_two_pow (Nat.lt_of_lt_of_le (smallP_get hy i) (Nat.pow_le_pow_right (by omega) (by omega)))]
    simp only [List.getD_eq_getElem?_getD, List.getElem?_eq_getElem hi, List.getElem?_eq_getElem (hl ▸ hi), Option.getD_some] at e
    rw [List.getElem?_eq_getElem hi, List.getElem?_eq_getElem (hl ▸ hi), e]
  · rw [List.getElem?_eq_none (by omega), List.getElem?_eq_none (by omega)]
/-- two arrays of a kind have the same words just if they have the same states -/
theorem arr_eq {k a b : Nat} {l m : List ST} (hg : GoodR k a b) (h1 : wells k a b l) (h2 : wells k a b m) : (l.length = m.length ∧ wordsP (wdR k a b) (encs k a b l) = wordsP (wdR k a b) (encs k a b m)) ↔ l = m := by
  constructor
  · rintro ⟨hl, h⟩
    exact encs_inj hg h1 h2 (wordsP_inj (wdR_le hg).1 (by simpa using hl) (encs_small _ _ _ _) (encs_small _ _ _ _) h)
  · rintro rfl; exact ⟨rfl, rfl⟩

theorem nw_pos {k a b n : Nat} (hg : GoodR k a b) (h1 : 1 ≤ n) (hn : n ≤ 256) : 0 < nwP n (wdR k a b) ∧ nwP n (wdR k a b) ≤ 4000000 := by
  obtain ⟨w0, w16⟩ := wdR_le hg
  unfold nwP
  have h1' : n * 1 ≤ n * wdR k a b := Nat.mul_le_mul_left _ w0
  have h2' : n * wdR k a b ≤ 256 * 16 := Nat.mul_le_mul hn w16
  omega

theorem cclone_ok {k a b : Nat} (l : List ST) (hg : GoodR k a b) (h1 : 1 ≤ l.length) (hn : l.length ≤ 256) :
    Eqn Tryz.prog n_carray_Array_Clone [.p 0 0] [arrO 1 k a b, arrV 2 k a b l, arrB k a b l] (.p 3 0) [arrO 1 k a b, arrV 2 k a b l, arrB k a b l, arrO 4 k a b, arrV 5 k a b l, arrB k a b l] := by
  refine Eqn.gen [0, 1, 2, 5, 3, 4] r_carray_Array_Clone (by simp) (by simp) (by rfl) (by decide) (by simp) (by simp [arrO, arrV, arrB, vecO, vecB]) ?_
  obtain ⟨n0, n1⟩ := nw_pos hg h1 hn
  have hc := pclone_ok (wdR k a b) (encs k a b l) (by simpa using n0) (by simpa using n1)
  simp only [c_carray_Array_Clone, arrO, arrV, arrB, vecO, vecB, encs_len] at hc ⊢
  generalize wordsP (wdR k a b) (encs k a b l) = ws at *
  generalize nwP l.length (wdR k a b) = NW at *
  repeat (first | refine AW.seq ?_ | refine AW.block ?_ | (refine AW.reg mix ?_; simp (implicitDefEqProofs := false); try simp (disch := omega) only [w64, wu64]) | (refine need.of (by first | omega | kernel_rfl) ?_) | (refine AW.fin ?_; try simp (implicitDefEqProofs := false)))
  refine CallS.g [1, 2] (hc) ?_
  (try (simp (implicitDefEqProofs := false); try simp (disch := omega) only [w64, wu64]))
  repeat (first | refine AW.seq ?_ | refine AW.block ?_ | (refine AW.reg mix ?_; simp (implicitDefEqProofs := false); try simp (disch := omega) only [w64, wu64]) | (refine need.of (by first | omega | kernel_rfl) ?_) | (refine AW.fin ?_; try simp (implicitDefEqProofs := false)))

theorem frzs_map_d (n s : Nat) (ds : List D) (l : List D) : V.frzs n s ds (l.map V.d) = l.map V.d := by
  rw [frzs_map]; simp [V.frz]
theorem csame_ok {k a b : Nat} (l m : List ST) (hg : GoodR k a b) (h1 : wells k a b l) (h2 : wells k a b m) (hl : 1 ≤ l.length) (hln : l.length ≤ 256) (hm : 1 ≤ m.length) (hmn : m.length ≤ 256) :
    Eqn Tryz.prog n_carray_Array_Same [.p 0 0, .p 3 0] [arrO 1 k a b, arrV 2 k a b l, arrB k a b l, arrO 4 k a b, arrV 5 k a b m, arrB k a b m] (.d (.bool (decide (l = m)))) [arrO 1 k a b, arrV 2 k a b l, arrB k a b l, arrO 4 k a b, arrV 5 k a b m, arrB k a b m] := by
  refine Eqn.gen [0, 1, 2, 3, 4, 5] r_carray_Array_Same (by simp) (by simp) (by rfl) (by decide) (by simp) (by simp [arrO, arrV, arrB, vecO, vecB]) ?_
  have hs := psame_ok (wdR k a b) (wdR k a b) (encs k a b l) (encs k a b m) (by simpa using (nw_pos hg hl hln).2) (by simpa using (nw_pos hg hm hmn).2)
  have he : (decide ((encs k a b l).length = (encs k a b m).length ∧ wdR k a b = wdR k a b ∧ wordsP (wdR k a b) (encs k a b l) = wordsP (wdR k a b) (encs k a b m))) = decide (l = m) := by
    rw [decide_eq_decide, ← arr_eq hg h1 h2]; simp
  rw [he] at hs
  have hwlen : ((wordsP (wdR k a b) (encs k a b l)).map fun x : Nat => D.int .u64 x).length = nwP l.length (wdR k a b) := by simp
  have htk : ((wordsP (wdR k a b) (encs k a b l)).map fun x : Nat => D.int .u64 x).take (nwP l.length (wdR k a b)) = (wordsP (wdR k a b) (encs k a b l)).map fun x : Nat => D.int .u64 x := List.take_of_length_le (by simp)
  have hL0 : u64s (wordsP (wdR k a b) (encs k a b l)) = ((wordsP (wdR k a b) (encs k a b l)).map fun x : Nat => D.int .u64 x).map V.d := by simp [u64s]
  have htkm : ((wordsP (wdR k a b) (encs k a b m)).map fun x : Nat => D.int .u64 x).take (nwP m.length (wdR k a b)) = (wordsP (wdR k a b) (encs k a b m)).map fun x : Nat => D.int .u64 x := List.take_of_length_le (by simp)
  have hL0m : u64s (wordsP (wdR k a b) (encs k a b m)) = ((wordsP (wdR k a b) (encs k a b m)).map fun x : Nat => D.int .u64 x).map V.d := by simp [u64s]
  simp only [c_carray_Array_Same, arrO, arrV, arrB, vecO, vecB, vecD, encs_len] at hs ⊢
  clear he h1 h2
  generalize decide (l = m) = eq at *
  generalize hn1 : l.length = n1 at *
  generalize hn2 : m.length = n2 at *
  generalize encs k a b m = em at *
  generalize encs k a b l = el at *
  generalize wordsP (wdR k a b) em = wm at *
  generalize wordsP (wdR k a b) el = wl at *
  generalize hLL : (wl.map fun x : Nat => D.int .u64 x) = L0 at *
  generalize hMM : (wm.map fun x : Nat => D.int .u64 x) = M0 at *
  generalize wdR k a b = w at *
  generalize nwP n1 w = NW at *
  generalize nwP n2 w = MW at *
  repeat (first | refine AW.seq ?_ | refine AW.block ?_ | (refine AW.reg mix ?_; simp (implicitDefEqProofs := false); try simp (disch := omega) only [w64, wu64]) | (refine need.of (by first | omega | kernel_rfl) ?_) | (refine AW.fin ?_; try simp (implicitDefEqProofs := false)))
  refine CallS.ro [(2, 1, L0), (1, 1, [.sl NW L0, .int .i64 n1, .int .i64 w]), (5, 1, M0), (4, 1, [.sl MW M0, .int .i64 n2, .int .i64 w])] (hs) ?_ (hok := by first | (simp [frzOK, frzH, hL0, htk, hL0m, htkm, frzs_map_d]; done) | (simp [frzOK, frzH, hL0, htk, hL0m, htkm, frzs_map_d]; rfl))
  (try (simp (implicitDefEqProofs := false); try simp (disch := omega) only [w64, wu64]))
  repeat (first | refine AW.seq ?_ | refine AW.block ?_ | (refine AW.reg mix ?_; simp (implicitDefEqProofs := false); try simp (disch := omega) only [w64, wu64]) | (refine need.of (by first | omega | kernel_rfl) ?_) | (refine AW.fin ?_; try simp (implicitDefEqProofs := false)))
end
end Go.Proofs.YtdbfenhaljmbfaaGreat.Am
namespace Go.Proofs.YtdbfenhaljmbfaaGreat.Am
section
set_option linter.unusedVariables false
set_option linter.unusedSimpArgs false
open Go.RowKit
set_option maxRecDepth 100000
set_option linter.unusedSimpArgs false
set_option linter.unusedVariables false

theorem twell_neg {a b : Nat} (h : GoodT a b) (y t : Int) (f : Bool) (hn : y < 0 ∨ t < 0) : Eqn Tryz.prog n_thin_Param_Well [.d (tpD a b), .d (.agg [.int .i64 y, .int .i64 t, .bool f])] [] (.d (.bool false)) [] := by
  refine Eqn.pure r_thin_Param_Well Plain.ok ?_
  have hc := tcheck_ok h
  simp only [c_thin_Param_Well, tpD] at hc ⊢
  by_cases g : 0 ≤ y
  · have g4 : ¬ 0 ≤ t := by omega
    by_cases h1 : y ≤ a
    · repeat (first | refine AW.seq ?_ | refine AW.block ?_ | (refine AW.reg mix ?_; simp (implicitDefEqProofs := false) [g, h1, g4]; try simp (disch := omega) only [w64, wu64]) | (refine need.of (by first | omega | kernel_rfl) ?_) | (refine AW.fin ?_; try simp (implicitDefEqProofs := false) [g, h1, g4]))
      refine CallS.pu (hc) ?_
      (try (simp (implicitDefEqProofs := false) [g, h1, g4]; try simp (disch := omega) only [w64, wu64]))
      repeat (first | refine AW.seq ?_ | refine AW.block ?_ | (refine AW.reg mix ?_; simp (implicitDefEqProofs := false) [g, h1, g4]; try simp (disch := omega) only [w64, wu64]) | (refine need.of (by first | omega | kernel_rfl) ?_) | (refine AW.fin ?_; try simp (implicitDefEqProofs := false) [g, h1, g4]))
    · repeat (first | refine AW.seq ?_ | refine AW.block ?_ | (refine AW.reg mix ?_; simp (implicitDefEqProofs := false) [g, h1, g4]; try simp (disch := omega) only [w64, wu64]) | (refine need.of (by first | omega | kernel_rfl) ?_) | (refine AW.fin ?_; try simp (implicitDefEqProofs := false) [g, h1, g4]))
      refine CallS.pu (hc) ?_
      (try (simp (implicitDefEqProofs := false) [g, h1, g4]; try simp (disch := omega) only [w64, wu64]))
      repeat (first | refine AW.seq ?_ | refine AW.block ?_ | (refine AW.reg mix ?_; simp (implicitDefEqProofs := false) [g, h1, g4]; try simp (disch := omega) only [w64, wu64]) | (refine need.of (by first | omega | kernel_rfl) ?_) | (refine AW.fin ?_; try simp (implicitDefEqProofs := false) [g, h1, g4]))
  · repeat (first | refine AW.seq ?_ | refine AW.block ?_ | (refine AW.reg mix ?_; simp (implicitDefEqProofs := false) [g]; try simp (disch := omega) only [w64, wu64]) | (refine need.of (by first | omega | kernel_rfl) ?_) | (refine AW.fin ?_; try simp (implicitDefEqProofs := false) [g]))
    refine CallS.pu (hc) ?_
    (try (simp (implicitDefEqProofs := false) [g]; try simp (disch := omega) only [w64, wu64]))
    repeat (first | refine AW.seq ?_ | refine AW.block ?_ | (refine AW.reg mix ?_; simp (implicitDefEqProofs := false) [g]; try simp (disch := omega) only [w64, wu64]) | (refine need.of (by first | omega | kernel_rfl) ?_) | (refine AW.fin ?_; try simp (implicitDefEqProofs := false) [g]))

theorem rwell_neg {k a b : Nat} (h : GoodR k a b) (y t : Int) (f : Bool) (hn : y < 0 ∨ t < 0) : Eqn Tryz.prog n_reg_Param_Well [.d (parD k a b), .d (.agg [.int .i64 y, .int .i64 t, .bool f])] [] (.d (.bool false)) [] := by
  refine Eqn.pure r_reg_Param_Well Plain.ok ?_
  have hc := rcheck_ok h
  rcases h with ⟨rfl, h⟩ | ⟨hk, h⟩
  · have h1 := rthin_ok 4 a b
    have h2 := twell_neg h y t f hn
    have h3 := rthinned_ok y t f
    simp only [c_reg_Param_Well, parD, tpD] at hc h1 h2 h3 ⊢
    repeat (first | refine AW.seq ?_ | refine AW.block ?_ | (refine AW.reg mix ?_; simp (implicitDefEqProofs := false); try simp (disch := omega) only [w64, wu64]) | (refine need.of (by first | omega | kernel_rfl) ?_) | (refine AW.fin ?_; try simp (implicitDefEqProofs := false)))
    refine CallS.pu (hc) ?_
    (try (simp (implicitDefEqProofs := false); try simp (disch := omega) only [w64, wu64]))
    repeat (first | refine AW.seq ?_ | refine AW.block ?_ | (refine AW.reg mix ?_; simp (implicitDefEqProofs := false); try simp (disch := omega) only [w64, wu64]) | (refine need.of (by first | omega | kernel_rfl) ?_) | (refine AW.fin ?_; try simp (implicitDefEqProofs := false)))
    refine AW.cond rfl (fun h => ?_) (fun h => ?_)
    · simp at h
    repeat (first | refine AW.seq ?_ | refine AW.block ?_ | (refine AW.reg mix ?_; simp (implicitDefEqProofs := false); try simp (disch := omega) only [w64, wu64]) | (refine need.of (by first | omega | kernel_rfl) ?_) | (refine AW.fin ?_; try simp (implicitDefEqProofs := false)))
    refine AW.cond rfl (fun h => ?_) (fun h => ?_)
    · repeat (first | refine AW.seq ?_ | refine AW.block ?_ | (refine AW.reg mix ?_; simp (implicitDefEqProofs := false); try simp (disch := omega) only [w64, wu64]) | (refine need.of (by first | omega | kernel_rfl) ?_) | (refine AW.fin ?_; try simp (implicitDefEqProofs := false)))
      refine CallS.pu (h1) ?_
      (try (simp (implicitDefEqProofs := false); try simp (disch := omega) only [w64, wu64]))
      repeat (first | refine AW.seq ?_ | refine AW.block ?_ | (refine AW.reg mix ?_; simp (implicitDefEqProofs := false); try simp (disch := omega) only [w64, wu64]) | (refine need.of (by first | omega | kernel_rfl) ?_) | (refine AW.fin ?_; try simp (implicitDefEqProofs := false)))
      refine CallS.pu (h3) ?_
      (try (simp (implicitDefEqProofs := false); try simp (disch := omega) only [w64, wu64]))
      repeat (first | refine AW.seq ?_ | refine AW.block ?_ | (refine AW.reg mix ?_; simp (implicitDefEqProofs := false); try simp (disch := omega) only [w64, wu64]) | (refine need.of (by first | omega | kernel_rfl) ?_) | (refine AW.fin ?_; try simp (implicitDefEqProofs := false)))
      refine CallS.pu (h2) ?_
      (try (simp (implicitDefEqProofs := false); try simp (disch := omega) only [w64, wu64]))
      repeat (first | refine AW.seq ?_ | refine AW.block ?_ | (refine AW.reg mix ?_; simp (implicitDefEqProofs := false); try simp (disch := omega) only [w64, wu64]) | (refine need.of (by first | omega | kernel_rfl) ?_) | (refine AW.fin ?_; try simp (implicitDefEqProofs := false)))
    · simp at h
  · have h1 := rchain_ok k a b
    have h2 := top_ok k a b h.2.2 (goodC_check h)
    have hk' : ¬ (k : Int) = 4 := by omega
    simp only [c_reg_Param_Well, parD] at hc h1 h2 ⊢
    generalize 2 ^ b - 1 = S at *
    by_cases ht : t = 0
    · have g : ¬ 0 ≤ y := by omega
      repeat (first | refine AW.seq ?_ | refine AW.block ?_ | (refine AW.reg mix ?_; simp (implicitDefEqProofs := false) [g, hk, hk', ht]; try simp (disch := omega) only [w64, wu64]) | (refine need.of (by first | omega | kernel_rfl) ?_) | (refine AW.fin ?_; try simp (implicitDefEqProofs := false) [g, hk, hk', ht]))
      refine CallS.pu (hc) ?_
      (try (simp (implicitDefEqProofs := false) [g, hk, hk', ht]; try simp (disch := omega) only [w64, wu64]))
      repeat (first | refine AW.seq ?_ | refine AW.block ?_ | (refine AW.reg mix ?_; simp (implicitDefEqProofs := false) [g, hk, hk', ht]; try simp (disch := omega) only [w64, wu64]) | (refine need.of (by first | omega | kernel_rfl) ?_) | (refine AW.fin ?_; try simp (implicitDefEqProofs := false) [g, hk, hk', ht]))
      refine AW.cond rfl (fun h => ?_) (fun h => ?_)
      · simp at h
      repeat (first | refine AW.seq ?_ | refine AW.block ?_ | (refine AW.reg mix ?_; simp (implicitDefEqProofs := false) [g, hk, hk', ht]; try simp (disch := omega) only [w64, wu64]) | (refine need.of (by first | omega | kernel_rfl) ?_) | (refine AW.fin ?_; try simp (implicitDefEqProofs := false) [g, hk, hk', ht]))
      refine AW.cond rfl (fun h => ?_) (fun h => ?_)
      · simp [hk'] at h
      repeat (first | refine AW.seq ?_ | refine AW.block ?_ | (refine AW.reg mix ?_; simp (implicitDefEqProofs := false) [g, ht]; try simp (disch := omega) only [w64, wu64]) | (refine need.of (by first | omega | kernel_rfl) ?_) | (refine AW.fin ?_; try simp (implicitDefEqProofs := false) [g, ht]))
      refine CallS.pu (h1) ?_
      (try (simp (implicitDefEqProofs := false) [g, ht]; try simp (disch := omega) only [w64, wu64]))
      repeat (first | refine AW.seq ?_ | refine AW.block ?_ | (refine AW.reg mix ?_; simp (implicitDefEqProofs := false) [g, ht]; try simp (disch := omega) only [w64, wu64]) | (refine need.of (by first | omega | kernel_rfl) ?_) | (refine AW.fin ?_; try simp (implicitDefEqProofs := false) [g, ht]))
      refine CallS.pu (h2) ?_
      (try (simp (implicitDefEqProofs := false) [g, ht]; try simp (disch := omega) only [w64, wu64]))
      repeat (first | refine AW.seq ?_ | refine AW.block ?_ | (refine AW.reg mix ?_; simp (implicitDefEqProofs := false) [g, ht]; try simp (disch := omega) only [w64, wu64]) | (refine need.of (by first | omega | kernel_rfl) ?_) | (refine AW.fin ?_; try simp (implicitDefEqProofs := false) [g, ht]))
    · repeat (first | refine AW.seq ?_ | refine AW.block ?_ | (refine AW.reg mix ?_; simp (implicitDefEqProofs := false) [hk, hk', ht]; try simp (disch := omega) only [w64, wu64]) | (refine need.of (by first | omega | kernel_rfl) ?_) | (refine AW.fin ?_; try simp (implicitDefEqProofs := false) [hk, hk', ht]))
      refine CallS.pu (hc) ?_
      (try (simp (implicitDefEqProofs := false) [hk, hk', ht]; try simp (disch := omega) only [w64, wu64]))
      repeat (first | refine AW.seq ?_ | refine AW.block ?_ | (refine AW.reg mix ?_; simp (implicitDefEqProofs := false) [hk, hk', ht]; try simp (disch := omega) only [w64, wu64]) | (refine need.of (by first | omega | kernel_rfl) ?_) | (refine AW.fin ?_; try simp (implicitDefEqProofs := false) [hk, hk', ht]))
      refine AW.cond rfl (fun h => ?_) (fun h => ?_)
      · simp at h
      repeat (first | refine AW.seq ?_ | refine AW.block ?_ | (refine AW.reg mix ?_; simp (implicitDefEqProofs := false) [hk, hk', ht]; try simp (disch := omega) only [w64, wu64]) | (refine need.of (by first | omega | kernel_rfl) ?_) | (refine AW.fin ?_; try simp (implicitDefEqProofs := false) [hk, hk', ht]))
      refine AW.cond rfl (fun h => ?_) (fun h => ?_)
      · simp [hk'] at h
      repeat (first | refine AW.seq ?_ | refine AW.block ?_ | (refine AW.reg mix ?_; simp (implicitDefEqProofs := false) [ht]; try simp (disch := omega) only [w64, wu64]) | (refine need.of (by first | omega | kernel_rfl) ?_) | (refine AW.fin ?_; try simp (implicitDefEqProofs := false) [ht]))
      refine CallS.pu (h1) ?_
      (try (simp (implicitDefEqProofs := false) [ht]; try simp (disch := omega) only [w64, wu64]))
      repeat (first | refine AW.seq ?_ | refine AW.block ?_ | (refine AW.reg mix ?_; simp (implicitDefEqProofs := false) [ht]; try simp (disch := omega) only [w64, wu64]) | (refine need.of (by first | omega | kernel_rfl) ?_) | (refine AW.fin ?_; try simp (implicitDefEqProofs := false) [ht]))
      refine CallS.pu (h2) ?_
      (try (simp (implicitDefEqProofs := false) [ht]; try simp (disch := omega) only [w64, wu64]))
      repeat (first | refine AW.seq ?_ | refine AW.block ?_ | (refine AW.reg mix ?_; simp (implicitDefEqProofs := false) [ht]; try simp (disch := omega) only [w64, wu64]) | (refine need.of (by first | omega | kernel_rfl) ?_) | (refine AW.fin ?_; try simp (implicitDefEqProofs := false) [ht]))

/-- a state of any numbers: it may be, or not -/
theorem rwell_any {k a b : Nat} (h : GoodR k a b) (y t : Int) (f : Bool) : (∃ Y T : Nat, y = Y ∧ t = T ∧ WellR k a b Y T f ∧ Eqn Tryz.prog n_reg_Param_Well [.d (parD k a b), .d (.agg [.int .i64 y, .int .i64 t, .bool f])] [] (.d (.bool true)) []) ∨ Eqn Tryz.prog n_reg_Param_Well [.d (parD k a b), .d (.agg [.int .i64 y, .int .i64 t, .bool f])] [] (.d (.bool false)) [] := by
  by_cases hn : y < 0 ∨ t < 0
  · exact .inr (rwell_neg h y t f hn)
  · obtain ⟨Y, rfl⟩ : ∃ Y : Nat, y = Y := ⟨y.toNat, by omega⟩
    obtain ⟨T, rfl⟩ : ∃ T : Nat, t = T := ⟨t.toNat, by omega⟩
    have hw := rwell_ok h Y T f
    cases hb : wellRB k a b Y T f with
    | true => rw [hb] at hw; exact .inl ⟨Y, T, rfl, rfl, wellRB_iff.1 hb, hw⟩
    | false => rw [hb] at hw; exact .inr hw

theorem rwrong1_bad {k a b : Nat} {y t : Int} {f : Bool} (h : GoodR k a b) (hw : Eqn Tryz.prog n_reg_Param_Well [.d (parD k a b), .d (.agg [.int .i64 y, .int .i64 t, .bool f])] [] (.d (.bool false)) []) : Eqn Tryz.prog n_reg_Param_wrong [.d (parD k a b), .d (.sl 1 [.int .i64 y, .int .i64 t, .bool f])] [] (.d (.int .i64 2)) [] := by
  refine Eqn.pure r_reg_Param_wrong Plain.ok ?_
  have hc := rcheck_ok h
  simp only [c_reg_Param_wrong, parD] at hc hw ⊢
  repeat (first | refine AW.seq ?_ | refine AW.block ?_ | (refine AW.reg mix ?_; simp (implicitDefEqProofs := false); try simp (disch := omega) only [w64, wu64]) | (refine need.of (by first | omega | kernel_rfl) ?_) | (refine AW.fin ?_; try simp (implicitDefEqProofs := false)))
  refine CallS.pu (hc) ?_
  (try (simp (implicitDefEqProofs := false); try simp (disch := omega) only [w64, wu64]))
  repeat (first | refine AW.seq ?_ | refine AW.block ?_ | (refine AW.reg mix ?_; simp (implicitDefEqProofs := false); try simp (disch := omega) only [w64, wu64]) | (refine need.of (by first | omega | kernel_rfl) ?_) | (refine AW.fin ?_; try simp (implicitDefEqProofs := false)))
  refine AW.cond rfl (fun h => ?_) (fun h => ?_)
  · simp at h
  repeat (first | refine AW.seq ?_ | refine AW.block ?_ | (refine AW.reg mix ?_; simp (implicitDefEqProofs := false); try simp (disch := omega) only [w64, wu64]) | (refine need.of (by first | omega | kernel_rfl) ?_) | (refine AW.fin ?_; try simp (implicitDefEqProofs := false)))
  refine AW.loopT (α := Nat) 1 (fun i => [(15, .d (.int .i64 (i : Int)))]) (fun i => []) (fun i => i = 0) (fun i => 1 - i) 0 ?_ ?_ rfl ?_ ?_ ?_
  · simp
  · simp
  · simp
  · simp
  rintro i rfl
  simp
  repeat (first | refine AW.seq ?_ | refine AW.block ?_ | (refine AW.reg mix ?_; simp (implicitDefEqProofs := false); try simp (disch := omega) only [w64, wu64]) | (refine need.of (by first | omega | kernel_rfl) ?_) | (refine AW.fin ?_; try simp (implicitDefEqProofs := false)))
  refine AW.cond rfl (fun h => ?_) (fun h => ?_)
  · repeat (first | refine AW.seq ?_ | refine AW.block ?_ | (refine AW.reg mix ?_; simp (implicitDefEqProofs := false); try simp (disch := omega) only [w64, wu64]) | (refine need.of (by first | omega | kernel_rfl) ?_) | (refine AW.fin ?_; try simp (implicitDefEqProofs := false)))
    refine CallS.pu (hw) ?_
    (try (simp (implicitDefEqProofs := false); try simp (disch := omega) only [w64, wu64]))
    repeat (first | refine AW.seq ?_ | refine AW.block ?_ | (refine AW.reg mix ?_; simp (implicitDefEqProofs := false); try simp (disch := omega) only [w64, wu64]) | (refine need.of (by first | omega | kernel_rfl) ?_) | (refine AW.fin ?_; try simp (implicitDefEqProofs := false)))
    refine AW.cond rfl (fun h => ?_) (fun h => ?_)
    · repeat (first | refine AW.seq ?_ | refine AW.block ?_ | (refine AW.reg mix ?_; simp (implicitDefEqProofs := false); try simp (disch := omega) only [w64, wu64]) | (refine need.of (by first | omega | kernel_rfl) ?_) | (refine AW.fin ?_; try simp (implicitDefEqProofs := false)))
    · simp at h
  · simp at h

theorem rwrite_bad {k a b : Nat} {y t : Int} {f : Bool} (h : GoodR k a b) (hw : Eqn Tryz.prog n_reg_Param_Well [.d (parD k a b), .d (.agg [.int .i64 y, .int .i64 t, .bool f])] [] (.d (.bool false)) []) : Eqn Tryz.prog n_reg_Param_Write [.d (parD k a b), .p 0 0, .d (.agg [.int .i64 y, .int .i64 t, .bool f])] [⟨138, [.d .nilsl, .d (.int .i64 0)]⟩] (.d (.int .i64 2)) [⟨138, [.d .nilsl, .d (.int .i64 0)]⟩] := by
  refine Eqn.gen [0] r_reg_Param_Write (by simp) (by simp) (by rfl) (by decide) (by simp) (by simp) ?_
  have h1 := rwrong1_bad h hw
  simp only [c_reg_Param_Write, parD] at h1 ⊢
  repeat (first | refine AW.seq ?_ | refine AW.block ?_ | (refine AW.reg mix ?_; simp (implicitDefEqProofs := false); try simp (disch := omega) only [w64, wu64]) | (refine need.of (by first | omega | kernel_rfl) ?_) | (refine AW.fin ?_; try simp (implicitDefEqProofs := false)))
  refine CallS.gf 3 3 ⟨36, _⟩ [.int .i64 y, .int .i64 t, .bool f] [] (h1) ?_
  (try (simp (implicitDefEqProofs := false); try simp (disch := omega) only [w64, wu64]))
  repeat (first | refine AW.seq ?_ | refine AW.block ?_ | (refine AW.reg mix ?_; simp (implicitDefEqProofs := false); try simp (disch := omega) only [w64, wu64]) | (refine need.of (by first | omega | kernel_rfl) ?_) | (refine AW.fin ?_; try simp (implicitDefEqProofs := false)))
  refine AW.cond rfl (fun h => ?_) (fun h => ?_)
  · repeat (first | refine AW.seq ?_ | refine AW.block ?_ | (refine AW.reg mix ?_; simp (implicitDefEqProofs := false); try simp (disch := omega) only [w64, wu64]) | (refine need.of (by first | omega | kernel_rfl) ?_) | (refine AW.fin ?_; try simp (implicitDefEqProofs := false)))
  · simp at h

theorem cget_out {k a b : Nat} (l : List ST) (i : Int) (h : GoodR k a b) (hi : i < 0 ∨ (l.length : Int) ≤ i) :
    Eqn Tryz.prog n_carray_Array_Get [.p 0 0, .d (.int .i64 i)] [arrO 1 k a b, arrV 2 k a b l, arrB k a b l] (.tup [.d (tsD 0 0 false), .d (.int .i64 1)]) [arrO 1 k a b, arrV 2 k a b l, arrB k a b l] := by
  refine Eqn.gen [0, 1, 2] r_carray_Array_Get (by simp) (by simp) (by rfl) (by decide) (by simp [tsD]) (by simp [arrO, arrV, arrB, vecO, vecB]) ?_
  have hg := pget_out (wdR k a b) (encs k a b l) i (by simpa using hi)
  have htk : ((wordsP (wdR k a b) (encs k a b l)).map fun x : Nat => D.int .u64 x).take (nwP l.length (wdR k a b)) = (wordsP (wdR k a b) (encs k a b l)).map fun x : Nat => D.int .u64 x := List.take_of_length_le (by simp)
  have hL0 : u64s (wordsP (wdR k a b) (encs k a b l)) = ((wordsP (wdR k a b) (encs k a b l)).map fun x : Nat => D.int .u64 x).map V.d := by simp [u64s]
  simp only [c_carray_Array_Get, arrO, arrV, arrB, vecO, vecB, vecD, encs_len, tsD] at hg ⊢
  generalize encs k a b l = es at *
  generalize wordsP (wdR k a b) es = WS at *
  generalize hLL : (WS.map fun x : Nat => D.int .u64 x) = L0 at *
  generalize wdR k a b = w at *
  generalize nwP l.length w = NW at *
  repeat (first | refine AW.seq ?_ | refine AW.block ?_ | (refine AW.reg mix ?_; simp (implicitDefEqProofs := false); try simp (disch := omega) only [w64, wu64]) | (refine need.of (by first | omega | kernel_rfl) ?_) | (refine AW.fin ?_; try simp (implicitDefEqProofs := false)))
  refine CallS.ro [(2, 1, L0), (1, 1, [.sl NW L0, .int .i64 l.length, .int .i64 w])] (hg) ?_ (hok := by first | (simp [frzOK, frzH, hL0, htk]; done) | (simp [frzOK, frzH, hL0, htk]; rfl))
  (try (simp (implicitDefEqProofs := false); try simp (disch := omega) only [w64, wu64]))
  repeat (first | refine AW.seq ?_ | refine AW.block ?_ | (refine AW.reg mix ?_; simp (implicitDefEqProofs := false); try simp (disch := omega) only [w64, wu64]) | (refine need.of (by first | omega | kernel_rfl) ?_) | (refine AW.fin ?_; try simp (implicitDefEqProofs := false)))
  refine AW.cond rfl (fun h => ?_) (fun h => ?_)
  · repeat (first | refine AW.seq ?_ | refine AW.block ?_ | (refine AW.reg mix ?_; simp (implicitDefEqProofs := false); try simp (disch := omega) only [w64, wu64]) | (refine need.of (by first | omega | kernel_rfl) ?_) | (refine AW.fin ?_; try simp (implicitDefEqProofs := false)))
  · simp at h

theorem cset_out {k a b : Nat} (l : List ST) (i : Int) (y t : Int) (f : Bool) (h : GoodR k a b) (hi : i < 0 ∨ (l.length : Int) ≤ i) :
    Eqn Tryz.prog n_carray_Array_Set [.p 0 0, .d (.int .i64 i), .d (.agg [.int .i64 y, .int .i64 t, .bool f])] [arrO 1 k a b, arrV 2 k a b l, arrB k a b l] (.d (.int .i64 1)) [arrO 1 k a b, arrV 2 k a b l, arrB k a b l] := by
  refine Eqn.gen [0, 1, 2] r_carray_Array_Set (by simp) (by simp) (by rfl) (by decide) (by simp) (by simp [arrO, arrV, arrB, vecO, vecB]) ?_
  have hg := pget_out (wdR k a b) (encs k a b l) i (by simpa using hi)
  have htk : ((wordsP (wdR k a b) (encs k a b l)).map fun x : Nat => D.int .u64 x).take (nwP l.length (wdR k a b)) = (wordsP (wdR k a b) (encs k a b l)).map fun x : Nat => D.int .u64 x := List.take_of_length_le (by simp)
  have hL0 : u64s (wordsP (wdR k a b) (encs k a b l)) = ((wordsP (wdR k a b) (encs k a b l)).map fun x : Nat => D.int .u64 x).map V.d := by simp [u64s]
  simp only [c_carray_Array_Set, arrO, arrV, arrB, vecO, vecB, vecD, encs_len] at hg ⊢
  generalize encs k a b l = es at *
  generalize wordsP (wdR k a b) es = WS at *
  generalize hLL : (WS.map fun x : Nat => D.int .u64 x) = L0 at *
  generalize wdR k a b = w at *
  generalize nwP l.length w = NW at *
  repeat (first | refine AW.seq ?_ | refine AW.block ?_ | (refine AW.reg mix ?_; simp (implicitDefEqProofs := false); try simp (disch := omega) only [w64, wu64]) | (refine need.of (by first | omega | kernel_rfl) ?_) | (refine AW.fin ?_; try simp (implicitDefEqProofs := false)))
  refine CallS.ro [(2, 1, L0), (1, 1, [.sl NW L0, .int .i64 l.length, .int .i64 w])] (hg) ?_ (hok := by first | (simp [frzOK, frzH, hL0, htk]; done) | (simp [frzOK, frzH, hL0, htk]; rfl))
  (try (simp (implicitDefEqProofs := false); try simp (disch := omega) only [w64, wu64]))
  repeat (first | refine AW.seq ?_ | refine AW.block ?_ | (refine AW.reg mix ?_; simp (implicitDefEqProofs := false); try simp (disch := omega) only [w64, wu64]) | (refine need.of (by first | omega | kernel_rfl) ?_) | (refine AW.fin ?_; try simp (implicitDefEqProofs := false)))
  refine AW.cond rfl (fun h => ?_) (fun h => ?_)
  · repeat (first | refine AW.seq ?_ | refine AW.block ?_ | (refine AW.reg mix ?_; simp (implicitDefEqProofs := false); try simp (disch := omega) only [w64, wu64]) | (refine need.of (by first | omega | kernel_rfl) ?_) | (refine AW.fin ?_; try simp (implicitDefEqProofs := false)))
  · simp at h

theorem cset_bad {k a b : Nat} (l : List ST) (i : Nat) (y t : Int) (f : Bool) (h : GoodR k a b) (hi : i < l.length) (hn : l.length ≤ 256) (hw : Eqn Tryz.prog n_reg_Param_Well [.d (parD k a b), .d (.agg [.int .i64 y, .int .i64 t, .bool f])] [] (.d (.bool false)) []) :
    Eqn Tryz.prog n_carray_Array_Set [.p 0 0, .d (.int .i64 i), .d (.agg [.int .i64 y, .int .i64 t, .bool f])] [arrO 1 k a b, arrV 2 k a b l, arrB k a b l] (.d (.int .i64 2)) [arrO 1 k a b, arrV 2 k a b l, arrB k a b l] := by
  refine Eqn.gen [0, 1, 2] r_carray_Array_Set (by simp) (by simp) (by rfl) (by decide) (by simp) (by simp [arrO, arrV, arrB, vecO, vecB]) ?_
  obtain ⟨w0, w16⟩ := wdR_le h
  have hg := pget_ok (wdR k a b) (encs k a b l) i (by simpa using hi) (by simpa using hn) w0 (by omega) (encs_small k a b l)
  generalize (encs k a b l).getD i 0 = was at hg
  have h3 := rwrite_bad h hw
  have htk : ((wordsP (wdR k a b) (encs k a b l)).map fun x : Nat => D.int .u64 x).take (nwP l.length (wdR k a b)) = (wordsP (wdR k a b) (encs k a b l)).map fun x : Nat => D.int .u64 x := List.take_of_length_le (by simp)
  have hL0 : u64s (wordsP (wdR k a b) (encs k a b l)) = ((wordsP (wdR k a b) (encs k a b l)).map fun x : Nat => D.int .u64 x).map V.d := by simp [u64s]
  simp only [c_carray_Array_Set, arrO, arrV, arrB, vecO, vecB, vecD, encs_len, parD] at hg h3 ⊢
  generalize encs k a b l = es at *
  generalize wordsP (wdR k a b) es = WS at *
  generalize hLL : (WS.map fun x : Nat => D.int .u64 x) = L0 at *
  generalize wdR k a b = w at *
  generalize nwP l.length w = NW at *
  repeat (first | refine AW.seq ?_ | refine AW.block ?_ | (refine AW.reg mix ?_; simp (implicitDefEqProofs := false); try simp (disch := omega) only [w64, wu64]) | (refine need.of (by first | omega | kernel_rfl) ?_) | (refine AW.fin ?_; try simp (implicitDefEqProofs := false)))
  refine CallS.ro [(2, 1, L0), (1, 1, [.sl NW L0, .int .i64 l.length, .int .i64 w])] (hg) ?_ (hok := by first | (simp [frzOK, frzH, hL0, htk]; done) | (simp [frzOK, frzH, hL0, htk]; rfl))
  (try (simp (implicitDefEqProofs := false); try simp (disch := omega) only [w64, wu64]))
  repeat (first | refine AW.seq ?_ | refine AW.block ?_ | (refine AW.reg mix ?_; simp (implicitDefEqProofs := false); try simp (disch := omega) only [w64, wu64]) | (refine need.of (by first | omega | kernel_rfl) ?_) | (refine AW.fin ?_; try simp (implicitDefEqProofs := false)))
  refine AW.cond rfl (fun h => ?_) (fun h => ?_)
  · simp at h
  repeat (first | refine AW.seq ?_ | refine AW.block ?_ | (refine AW.reg mix ?_; simp (implicitDefEqProofs := false); try simp (disch := omega) only [w64, wu64]) | (refine need.of (by first | omega | kernel_rfl) ?_) | (refine AW.fin ?_; try simp (implicitDefEqProofs := false)))
  refine CallS.g [4] (h3) ?_
  (try (simp (implicitDefEqProofs := false); try simp (disch := omega) only [w64, wu64]))
  repeat (first | refine AW.seq ?_ | refine AW.block ?_ | (refine AW.reg mix ?_; simp (implicitDefEqProofs := false); try simp (disch := omega) only [w64, wu64]) | (refine need.of (by first | omega | kernel_rfl) ?_) | (refine AW.fin ?_; try simp (implicitDefEqProofs := false)))
  refine AW.cond rfl (fun h => ?_) (fun h => ?_)
  · repeat (first | refine AW.seq ?_ | refine AW.block ?_ | (refine AW.reg mix ?_; simp (implicitDefEqProofs := false); try simp (disch := omega) only [w64, wu64]) | (refine need.of (by first | omega | kernel_rfl) ?_) | (refine AW.fin ?_; try simp (implicitDefEqProofs := false)))
  · simp at h

theorem cadd_out {k a b : Nat} (cs : List Bool) (l : List ST) (i n : Int) (p : Nat) (d : Bool) (h : GoodR k a b) (hi : i < 0 ∨ (l.length : Int) ≤ i) :
    Eqn Tryz.prog n_carray_Array_Add [.p 0 0, .p 3 0, .d (.int .i64 i), .d (.int .i64 n)] [arrO 1 k a b, arrV 2 k a b l, arrB k a b l, tapeO cs p d] (.d (.int .i64 1)) [arrO 1 k a b, arrV 2 k a b l, arrB k a b l, tapeO cs p d] := by
  refine Eqn.gen [0, 1, 2, 3] r_carray_Array_Add (by simp) (by simp) (by rfl) (by decide) (by simp) (by simp [arrO, arrV, arrB, vecO, vecB, tapeO]) ?_
  have hg := cget_out l i h hi
  simp only [c_carray_Array_Add, arrO, arrV, arrB, vecO, vecB, tsD] at hg ⊢
  generalize wordsP (wdR k a b) (encs k a b l) = WS at *
  generalize nwP l.length (wdR k a b) = NW at *
  repeat (first | refine AW.seq ?_ | refine AW.block ?_ | (refine AW.reg mix ?_; simp (implicitDefEqProofs := false) [-Bool.exists_bool]; try simp (disch := omega) only [w64, wu64]) | (refine need.of (by first | omega | kernel_rfl) ?_) | (refine AW.fin ?_; try simp (implicitDefEqProofs := false) [-Bool.exists_bool]))
  refine CallS.g [0, 1, 2] (hg) ?_
  (try (simp (implicitDefEqProofs := false) [-Bool.exists_bool]; try simp (disch := omega) only [w64, wu64]))
  repeat (first | refine AW.seq ?_ | refine AW.block ?_ | (refine AW.reg mix ?_; simp (implicitDefEqProofs := false) [-Bool.exists_bool]; try simp (disch := omega) only [w64, wu64]) | (refine need.of (by first | omega | kernel_rfl) ?_) | (refine AW.fin ?_; try simp (implicitDefEqProofs := false) [-Bool.exists_bool]))
  refine AW.cond rfl (fun h => ?_) (fun h => ?_)
  · repeat (first | refine AW.seq ?_ | refine AW.block ?_ | (refine AW.reg mix ?_; simp (implicitDefEqProofs := false) [-Bool.exists_bool]; try simp (disch := omega) only [w64, wu64]) | (refine need.of (by first | omega | kernel_rfl) ?_) | (refine AW.fin ?_; try simp (implicitDefEqProofs := false) [-Bool.exists_bool]))
  · simp at h
end
end Go.Proofs.YtdbfenhaljmbfaaGreat.Am
namespace Go.Proofs.YtdbfenhaljmbfaaGreat.Am
section
set_option linter.unusedVariables false
set_option linter.unusedSimpArgs false
/-- the ways out of a block's loop -/
def exitQ {β : Type} (id N : Nat) (T1 : β → List V) (H1 : β → List (Option Ob)) (R2 : β → Prop) (Q : Exit → List V → List (Option Ob) → Prop) : Exit → List V → List (Option Ob) → Prop
  | .exit j, T, H => if j = id then ∃ b, R2 b ∧ wk N T (T1 b) ∧ wkH N H (H1 b) else Q (.exit j) T H
  | .normal, _, _ => False
  | e, T, H => Q e T H
attribute [simp] exitQ
end
end Go.Proofs.YtdbfenhaljmbfaaGreat.Am
namespace Go.Proofs.YtdbfenhaljmbfaaGreat.Am
section
set_option linter.unusedVariables false
set_option linter.unusedSimpArgs false
open Go.RowKit
set_option maxRecDepth 100000
set_option linter.unusedSimpArgs false
set_option linter.unusedVariables false

/-- a small parameter that may be -/
def SmallR (k a b : Nat) : Prop := k = 4 ∧ 1 ≤ a ∧ a ≤ 8 ∧ b ≤ 3 ∨ k ≠ 4 ∧ GoodS k a b
theorem goodR_of {k a b : Nat} (h : SmallR k a b) : GoodR k a b := by
  rcases h with ⟨rfl, h1, h2, h3⟩ | ⟨hk, h⟩
  · exact .inl ⟨rfl, h1, by omega, by omega⟩
  · exact .inr ⟨hk, goodC_of h⟩

theorem lown_ok (k a b : Int) : Eqn Tryz.prog n_Tlaw17_Own [.d (parD k a b)] [] (.d (parD k a b)) [] := by
  refine Eqn.pure r_Tlaw17_Own Plain.ok ?_
  simp only [c_Tlaw17_Own, parD]
  repeat (first | refine AW.seq ?_ | refine AW.block ?_ | (refine AW.reg mix ?_; simp (implicitDefEqProofs := false); try simp (disch := omega) only [w64, wu64]) | (refine need.of (by first | omega | kernel_rfl) ?_) | (refine AW.fin ?_; try simp (implicitDefEqProofs := false)))
theorem lstate_ok (y t : Int) (f : Bool) : Eqn Tryz.prog n_Tlaw17_State [.d (.agg [.int .i64 y, .int .i64 t, .bool f])] [] (.d (.agg [.int .i64 y, .int .i64 t, .bool f])) [] := by
  refine Eqn.pure r_Tlaw17_State Plain.ok ?_
  simp only [c_Tlaw17_State]
  repeat (first | refine AW.seq ?_ | refine AW.block ?_ | (refine AW.reg mix ?_; simp (implicitDefEqProofs := false); try simp (disch := omega) only [w64, wu64]) | (refine need.of (by first | omega | kernel_rfl) ?_) | (refine AW.fin ?_; try simp (implicitDefEqProofs := false)))

theorem and_tmod (y : Int) (m n : Nat) (hm : m ≤ 1000000) (hn : n ≤ 1000000) : ∃ (N Y : Nat), bits BinOp.and IntKind.i64 y (m : Int) = N ∧ IntKind.i64.wrap ((n : Int) + 1) = (n : Int) + 1 ∧ (N : Int).tmod ((n : Int) + 1) = Y ∧ Y ≤ n := by
  obtain ⟨N, h1, h2, h3⟩ := and_b y m (by omega)
  have hY : N % (n + 1) ≤ n := by have := Nat.mod_lt N (show 0 < n + 1 by omega); omega
  refine ⟨N, N % (n + 1), h1, w64 (by omega) (by omega), ?_, hY⟩
  rw [Int.tmod_eq_emod_of_nonneg (by omega)]; norm_cast

theorem lwithin_ok {k a b : Nat} (h : SmallR k a b) (y t : Int) (f : Bool) : ∃ (Y T : Nat) (F : Bool), WellR k a b Y T F ∧ Eqn Tryz.prog n_Tlaw17_Within [.d (parD k a b), .d (.agg [.int .i64 y, .int .i64 t, .bool f])] [] (.d (tsD Y T F)) [] := by
  rcases h with ⟨rfl, h1, h2, h3⟩ | ⟨hk, h⟩
  · obtain ⟨N1, Y, a1, a2, a3, a4⟩ := and_tmod y 7 a (by omega) (by omega)
    obtain ⟨N2, T, b1, b2, b3, b4⟩ := and_tmod t 3 b (by omega) (by omega)
    replace a1 : bits BinOp.and IntKind.i64 y 7 = N1 := a1
    replace b1 : bits BinOp.and IntKind.i64 t 3 = N2 := b1
    refine ⟨Y, T, f && (T == b), .inl ⟨rfl, a4, b4, by simp⟩, ?_⟩
    refine Eqn.pure r_Tlaw17_Within Plain.ok ?_
    have hF : ((T : Int) == (b : Int)) = (T == b) := by rw [Bool.eq_iff_iff]; simp; omega
    simp only [c_Tlaw17_Within, parD, tsD]
    generalize (T == b) = F at *
    cases f with
    | true =>
      repeat (first | refine AW.seq ?_ | refine AW.block ?_ | (refine AW.reg mix ?_; simp (implicitDefEqProofs := false) [-Bool.exists_bool]; try simp (disch := omega) only [w64, wu64]) | (refine need.of (by first | omega | kernel_rfl) ?_) | (refine AW.fin ?_; try simp (implicitDefEqProofs := false) [-Bool.exists_bool]))
      refine AW.cond rfl (fun h => ?_) (fun h => ?_)
      · repeat (first | refine AW.seq ?_ | refine AW.block ?_ | (refine AW.reg mix ?_; simp (implicitDefEqProofs := false) [a1, a2, a3, b1, b2, b3, hF, -Bool.exists_bool]; try simp (disch := omega) only [w64, wu64]) | (refine need.of (by first | omega | kernel_rfl) ?_) | (refine AW.fin ?_; try simp (implicitDefEqProofs := false) [a1, a2, a3, b1, b2, b3, hF, -Bool.exists_bool]))
      · simp at h
    | false =>
      repeat (first | refine AW.seq ?_ | refine AW.block ?_ | (refine AW.reg mix ?_; simp (implicitDefEqProofs := false) [-Bool.exists_bool]; try simp (disch := omega) only [w64, wu64]) | (refine need.of (by first | omega | kernel_rfl) ?_) | (refine AW.fin ?_; try simp (implicitDefEqProofs := false) [-Bool.exists_bool]))
      refine AW.cond rfl (fun h => ?_) (fun h => ?_)
      · repeat (first | refine AW.seq ?_ | refine AW.block ?_ | (refine AW.reg mix ?_; simp (implicitDefEqProofs := false) [a1, a2, a3, b1, b2, b3, hF, -Bool.exists_bool]; try simp (disch := omega) only [w64, wu64]) | (refine need.of (by first | omega | kernel_rfl) ?_) | (refine AW.fin ?_; try simp (implicitDefEqProofs := false) [a1, a2, a3, b1, b2, b3, hF, -Bool.exists_bool]))
      · simp at h
  · have hW : 2 ^ b - 1 ≤ 15 := by have := Nat.pow_le_pow_right (n := 2) (by omega) h.2.2; omega
    have hb2 : 0 < 2 ^ b := Nat.two_pow_pos b
    obtain ⟨N1, Y, a1, a2, a3, a4⟩ := and_tmod y 15 (2 ^ b - 1) (by omega) (by omega)
    replace a1 : bits BinOp.and IntKind.i64 y 15 = N1 := a1
    refine ⟨Y, 0, f && (Y == 2 ^ b - 1), .inr ⟨hk, rfl, a4, by simp⟩, ?_⟩
    refine Eqn.pure r_Tlaw17_Within Plain.ok ?_
    have hF : ((Y : Int) == ((2 ^ b - 1 : Nat) : Int)) = (Y == 2 ^ b - 1) := by rw [Bool.eq_iff_iff]; simp only [beq_iff_eq]; omega
    have e0 : (2 : Int) ^ b = (2 ^ b : Nat) := by rw [Int.natCast_pow]; rfl
    have hk' : ¬ (k : Int) = 4 := by omega
    have hb64 : b ≤ 64 := by have := h.2.2; omega
    simp only [c_Tlaw17_Within, parD, tsD]
    generalize (Y == 2 ^ b - 1) = F at *
    generalize 2 ^ b = S at *
    have e3 : IntKind.i64.wrap (S : Int) = S := w64 (by omega) (by omega)
    have e4 : IntKind.i64.wrap ((S : Int) - 1) = ((S - 1 : Nat) : Int) := by rw [w64 (by omega) (by omega)]; omega
    generalize S - 1 = S1 at *
    cases f with
    | true =>
      repeat (first | refine AW.seq ?_ | refine AW.block ?_ | (refine AW.reg mix ?_; simp (implicitDefEqProofs := false) [hk, hk', -Bool.exists_bool]; try simp (disch := omega) only [w64, wu64]) | (refine need.of (by first | omega | kernel_rfl) ?_) | (refine AW.fin ?_; try simp (implicitDefEqProofs := false) [hk, hk', -Bool.exists_bool]))
      refine AW.cond rfl (fun h => ?_) (fun h => ?_)
      · simp [hk'] at h
      · repeat (first | refine AW.seq ?_ | refine AW.block ?_ | (refine AW.reg mix ?_; simp (implicitDefEqProofs := false) [a1, a2, a3, e0, e3, e4, hF, hb64, -Bool.exists_bool]; try simp (disch := omega) only [w64, wu64]) | (refine need.of (by first | omega | kernel_rfl) ?_) | (refine AW.fin ?_; try simp (implicitDefEqProofs := false) [a1, a2, a3, e0, e3, e4, hF, hb64, -Bool.exists_bool]))
    | false =>
      repeat (first | refine AW.seq ?_ | refine AW.block ?_ | (refine AW.reg mix ?_; simp (implicitDefEqProofs := false) [hk, hk', -Bool.exists_bool]; try simp (disch := omega) only [w64, wu64]) | (refine need.of (by first | omega | kernel_rfl) ?_) | (refine AW.fin ?_; try simp (implicitDefEqProofs := false) [hk, hk', -Bool.exists_bool]))
      refine AW.cond rfl (fun h => ?_) (fun h => ?_)
      · simp [hk'] at h
      · repeat (first | refine AW.seq ?_ | refine AW.block ?_ | (refine AW.reg mix ?_; simp (implicitDefEqProofs := false) [a1, a2, a3, e0, e3, e4, hF, hb64, -Bool.exists_bool]; try simp (disch := omega) only [w64, wu64]) | (refine need.of (by first | omega | kernel_rfl) ?_) | (refine AW.fin ?_; try simp (implicitDefEqProofs := false) [a1, a2, a3, e0, e3, e4, hF, hb64, -Bool.exists_bool]))

/-- what a small parameter is made of -/
theorem lsmall_ok (k a b : Int) : ∃ K A B : Nat, SmallR K A B ∧ ∀ (y t : Int) (f : Bool), ∃ (Y T : Nat) (F : Bool), WellR K A B Y T F ∧ Eqn Tryz.prog n_Tlaw17_Small [.d (parD k a b), .d (.agg [.int .i64 y, .int .i64 t, .bool f])] [] (.tup [.d (parD K A B), .d (tsD Y T F)]) [] := by
  obtain ⟨e1, K, e2, hK, e3⟩ := tmod_r k 4 (by omega) (by omega)
  obtain ⟨B1, B2, b1, b2, b3, b4⟩ := and_tmod b 255 3 (by omega) (by omega)
  replace b1 : bits BinOp.and IntKind.i64 b 255 = B1 := b1
  replace b3 : (B1 : Int).tmod 4 = B2 := b3
  obtain ⟨B3, d1, d2, d3⟩ := and_b b 3 (by omega)
  obtain ⟨A1, a1, a2, a3⟩ := and_b a 3 (by omega)
  obtain ⟨A2, a4, a5, a6⟩ := and_b a 1 (by omega)
  obtain ⟨A3, a7, a8, a9⟩ := and_b a 7 (by omega)
  replace a1 : bits BinOp.and IntKind.i64 a 3 = A1 := a1
  replace a4 : bits BinOp.and IntKind.i64 a 1 = A2 := a4
  replace a7 : bits BinOp.and IntKind.i64 a 7 = A3 := a7
  replace d1 : bits BinOp.and IntKind.i64 b 3 = B3 := d1
  have e4 : IntKind.i64.wrap (1 + (B2 : Int)) = ((1 + B2 : Nat) : Int) := by rw [w64 (by omega) (by omega)]; omega
  have hK' : K = 0 ∨ K = 1 ∨ K = 2 ∨ K = 3 := by omega
  rcases hK' with rfl | rfl | rfl | rfl
  · refine ⟨1, 1 + A1, 1 + B2, .inr ⟨by omega, by omega, by omega, by omega⟩, fun y t f => ?_⟩
    obtain ⟨Y, T, F, hw, hE⟩ := lwithin_ok (k := 1) (a := 1 + A1) (b := 1 + B2) (.inr ⟨by omega, by omega, by omega, by omega⟩) y t f
    refine ⟨Y, T, F, hw, ?_⟩
    refine Eqn.pure r_Tlaw17_Small Plain.ok ?_
    simp only [c_Tlaw17_Small, parD, tsD] at hE ⊢
    generalize 1 + A1 = XA at *
    generalize 1 + B2 = XB at *
    repeat (first | refine AW.seq ?_ | refine AW.block ?_ | (refine AW.reg mix ?_; simp (implicitDefEqProofs := false) [e1, e2, e3, -Bool.exists_bool]; try simp (disch := omega) only [w64, wu64]) | (refine need.of (by first | omega | kernel_rfl) ?_) | (refine AW.fin ?_; try simp (implicitDefEqProofs := false) [e1, e2, e3, -Bool.exists_bool]))
    refine AW.cond rfl (fun h => ?_) (fun h => ?_)
    · repeat (first | refine AW.seq ?_ | refine AW.block ?_ | (refine AW.reg mix ?_; simp (implicitDefEqProofs := false) [b1, b3, e4, a1, a3, -Bool.exists_bool]; try simp (disch := omega) only [w64, wu64]) | (refine need.of (by first | omega | kernel_rfl) ?_) | (refine AW.fin ?_; try simp (implicitDefEqProofs := false) [b1, b3, e4, a1, a3, -Bool.exists_bool]))
      simp at hE
      refine CallS.pu (hE) ?_
      (try (simp (implicitDefEqProofs := false) [-Bool.exists_bool]; try simp (disch := omega) only [w64, wu64]))
      repeat (first | refine AW.seq ?_ | refine AW.block ?_ | (refine AW.reg mix ?_; simp (implicitDefEqProofs := false) [-Bool.exists_bool]; try simp (disch := omega) only [w64, wu64]) | (refine need.of (by first | omega | kernel_rfl) ?_) | (refine AW.fin ?_; try simp (implicitDefEqProofs := false) [-Bool.exists_bool]))
    · simp at h
  · refine ⟨2, A2, 1 + B2, .inr ⟨by omega, by omega, by omega, by omega⟩, fun y t f => ?_⟩
    obtain ⟨Y, T, F, hw, hE⟩ := lwithin_ok (k := 2) (a := A2) (b := 1 + B2) (.inr ⟨by omega, by omega, by omega, by omega⟩) y t f
    refine ⟨Y, T, F, hw, ?_⟩
    refine Eqn.pure r_Tlaw17_Small Plain.ok ?_
    simp only [c_Tlaw17_Small, parD, tsD] at hE ⊢
    generalize 1 + B2 = XB at *
    repeat (first | refine AW.seq ?_ | refine AW.block ?_ | (refine AW.reg mix ?_; simp (implicitDefEqProofs := false) [e1, e2, e3, -Bool.exists_bool]; try simp (disch := omega) only [w64, wu64]) | (refine need.of (by first | omega | kernel_rfl) ?_) | (refine AW.fin ?_; try simp (implicitDefEqProofs := false) [e1, e2, e3, -Bool.exists_bool]))
    refine AW.cond rfl (fun h => ?_) (fun h => ?_)
    · simp at h
    repeat (first | refine AW.seq ?_ | refine AW.block ?_ | (refine AW.reg mix ?_; simp (implicitDefEqProofs := false) [-Bool.exists_bool]; try simp (disch := omega) only [w64, wu64]) | (refine need.of (by first | omega | kernel_rfl) ?_) | (refine AW.fin ?_; try simp (implicitDefEqProofs := false) [-Bool.exists_bool]))
    refine AW.cond rfl (fun h => ?_) (fun h => ?_)
    · repeat (first | refine AW.seq ?_ | refine AW.block ?_ | (refine AW.reg mix ?_; simp (implicitDefEqProofs := false) [b1, b3, e4, a4, -Bool.exists_bool]; try simp (disch := omega) only [w64, wu64]) | (refine need.of (by first | omega | kernel_rfl) ?_) | (refine AW.fin ?_; try simp (implicitDefEqProofs := false) [b1, b3, e4, a4, -Bool.exists_bool]))
      simp at hE
      refine CallS.pu (hE) ?_
      (try (simp (implicitDefEqProofs := false) [-Bool.exists_bool]; try simp (disch := omega) only [w64, wu64]))
      repeat (first | refine AW.seq ?_ | refine AW.block ?_ | (refine AW.reg mix ?_; simp (implicitDefEqProofs := false) [-Bool.exists_bool]; try simp (disch := omega) only [w64, wu64]) | (refine need.of (by first | omega | kernel_rfl) ?_) | (refine AW.fin ?_; try simp (implicitDefEqProofs := false) [-Bool.exists_bool]))
    · simp at h
  · refine ⟨3, 1 + A2, 1 + B2, .inr ⟨by omega, by omega, by omega, by omega⟩, fun y t f => ?_⟩
    obtain ⟨Y, T, F, hw, hE⟩ := lwithin_ok (k := 3) (a := 1 + A2) (b := 1 + B2) (.inr ⟨by omega, by omega, by omega, by omega⟩) y t f
    refine ⟨Y, T, F, hw, ?_⟩
    refine Eqn.pure r_Tlaw17_Small Plain.ok ?_
    simp only [c_Tlaw17_Small, parD, tsD] at hE ⊢
    generalize 1 + A2 = XA at *
    generalize 1 + B2 = XB at *
    repeat (first | refine AW.seq ?_ | refine AW.block ?_ | (refine AW.reg mix ?_; simp (implicitDefEqProofs := false) [e1, e2, e3, -Bool.exists_bool]; try simp (disch := omega) only [w64, wu64]) | (refine need.of (by first | omega | kernel_rfl) ?_) | (refine AW.fin ?_; try simp (implicitDefEqProofs := false) [e1, e2, e3, -Bool.exists_bool]))
    refine AW.cond rfl (fun h => ?_) (fun h => ?_)
    · simp at h
    repeat (first | refine AW.seq ?_ | refine AW.block ?_ | (refine AW.reg mix ?_; simp (implicitDefEqProofs := false) [-Bool.exists_bool]; try simp (disch := omega) only [w64, wu64]) | (refine need.of (by first | omega | kernel_rfl) ?_) | (refine AW.fin ?_; try simp (implicitDefEqProofs := false) [-Bool.exists_bool]))
    refine AW.cond rfl (fun h => ?_) (fun h => ?_)
    · simp at h
    repeat (first | refine AW.seq ?_ | refine AW.block ?_ | (refine AW.reg mix ?_; simp (implicitDefEqProofs := false) [-Bool.exists_bool]; try simp (disch := omega) only [w64, wu64]) | (refine need.of (by first | omega | kernel_rfl) ?_) | (refine AW.fin ?_; try simp (implicitDefEqProofs := false) [-Bool.exists_bool]))
    refine AW.cond rfl (fun h => ?_) (fun h => ?_)
    · repeat (first | refine AW.seq ?_ | refine AW.block ?_ | (refine AW.reg mix ?_; simp (implicitDefEqProofs := false) [b1, b3, e4, a4, a6, -Bool.exists_bool]; try simp (disch := omega) only [w64, wu64]) | (refine need.of (by first | omega | kernel_rfl) ?_) | (refine AW.fin ?_; try simp (implicitDefEqProofs := false) [b1, b3, e4, a4, a6, -Bool.exists_bool]))
      simp at hE
      refine CallS.pu (hE) ?_
      (try (simp (implicitDefEqProofs := false) [-Bool.exists_bool]; try simp (disch := omega) only [w64, wu64]))
      repeat (first | refine AW.seq ?_ | refine AW.block ?_ | (refine AW.reg mix ?_; simp (implicitDefEqProofs := false) [-Bool.exists_bool]; try simp (disch := omega) only [w64, wu64]) | (refine need.of (by first | omega | kernel_rfl) ?_) | (refine AW.fin ?_; try simp (implicitDefEqProofs := false) [-Bool.exists_bool]))
    · simp at h
  · refine ⟨4, 1 + A3, B3, .inl ⟨rfl, by omega, by omega, by omega⟩, fun y t f => ?_⟩
    obtain ⟨Y, T, F, hw, hE⟩ := lwithin_ok (k := 4) (a := 1 + A3) (b := B3) (.inl ⟨rfl, by omega, by omega, by omega⟩) y t f
    refine ⟨Y, T, F, hw, ?_⟩
    refine Eqn.pure r_Tlaw17_Small Plain.ok ?_
    simp only [c_Tlaw17_Small, parD, tsD] at hE ⊢
    generalize 1 + A3 = XA at *
    repeat (first | refine AW.seq ?_ | refine AW.block ?_ | (refine AW.reg mix ?_; simp (implicitDefEqProofs := false) [e1, e2, e3, -Bool.exists_bool]; try simp (disch := omega) only [w64, wu64]) | (refine need.of (by first | omega | kernel_rfl) ?_) | (refine AW.fin ?_; try simp (implicitDefEqProofs := false) [e1, e2, e3, -Bool.exists_bool]))
    refine AW.cond rfl (fun h => ?_) (fun h => ?_)
    · simp at h
    repeat (first | refine AW.seq ?_ | refine AW.block ?_ | (refine AW.reg mix ?_; simp (implicitDefEqProofs := false) [-Bool.exists_bool]; try simp (disch := omega) only [w64, wu64]) | (refine need.of (by first | omega | kernel_rfl) ?_) | (refine AW.fin ?_; try simp (implicitDefEqProofs := false) [-Bool.exists_bool]))
    refine AW.cond rfl (fun h => ?_) (fun h => ?_)
    · simp at h
    repeat (first | refine AW.seq ?_ | refine AW.block ?_ | (refine AW.reg mix ?_; simp (implicitDefEqProofs := false) [-Bool.exists_bool]; try simp (disch := omega) only [w64, wu64]) | (refine need.of (by first | omega | kernel_rfl) ?_) | (refine AW.fin ?_; try simp (implicitDefEqProofs := false) [-Bool.exists_bool]))
    refine AW.cond rfl (fun h => ?_) (fun h => ?_)
    · simp at h
    · repeat (first | refine AW.seq ?_ | refine AW.block ?_ | (refine AW.reg mix ?_; simp (implicitDefEqProofs := false) [d1, a7, a9, -Bool.exists_bool]; try simp (disch := omega) only [w64, wu64]) | (refine need.of (by first | omega | kernel_rfl) ?_) | (refine AW.fin ?_; try simp (implicitDefEqProofs := false) [d1, a7, a9, -Bool.exists_bool]))
      simp at hE
      refine CallS.pu (hE) ?_
      (try (simp (implicitDefEqProofs := false) [-Bool.exists_bool]; try simp (disch := omega) only [w64, wu64]))
      repeat (first | refine AW.seq ?_ | refine AW.block ?_ | (refine AW.reg mix ?_; simp (implicitDefEqProofs := false) [-Bool.exists_bool]; try simp (disch := omega) only [w64, wu64]) | (refine need.of (by first | omega | kernel_rfl) ?_) | (refine AW.fin ?_; try simp (implicitDefEqProofs := false) [-Bool.exists_bool]))
end
end Go.Proofs.YtdbfenhaljmbfaaGreat.Am
namespace Go.Proofs.YtdbfenhaljmbfaaGreat.Am
section
set_option linter.unusedVariables false
set_option linter.unusedSimpArgs false
open Go.RowKit
set_option maxRecDepth 100000
set_option linter.unusedSimpArgs false
set_option linter.unusedVariables false
end
end Go.Proofs.YtdbfenhaljmbfaaGreat.Am
namespace Go.Proofs.YtdbfenhaljmbfaaGreat.Am
section
set_option linter.unusedVariables false
set_option linter.unusedSimpArgs false
open Go.RowKit
set_option maxRecDepth 100000
set_option linter.unusedSimpArgs false
set_option linter.unusedVariables false
end
end Go.Proofs.YtdbfenhaljmbfaaGreat.Am
namespace Go.Proofs.YtdbfenhaljmbfaaGreat.Am
section
set_option linter.unusedVariables false
set_option linter.unusedSimpArgs false
open Go.RowKit

theorem fnOf_enter {P : Program} {f : FuncId} {c : C} {rs : List RV} {nt : Nat} (hf : fnOf P f = some (c, rs, nt, false)) (vs : Array Value) (w : World) : (callFunc f vs).run P w = .ok (.enter f vs) w := by
  unfold fnOf at hf
  split at hf
  · rename_i fn hfn
    split at hf
    · rename_i b hb
      simp only [Option.some.injEq, Prod.mk.injEq] at hf
      obtain ⟨h1, h2, h3, h4⟩ := hf
      have h1 : ¬ fn.name = "runtime.NumGoroutine" := by simpa using h4
      simp [callFunc, hfn, h1, hb]
    · cases hf
  · cases hf

/-- the world that a law finds: nothing has a name, what is there stays -/
abbrev memW (W : World) : Mem := ⟨fun _ => none, fun b => b < W.heap.size, W⟩

theorem law_walk {P : Program} {f : FuncId} {args : List V} {c : C} {rs : List RV} {nt : Nat} (hf : fnOf P f = some (c, rs, nt, false)) (E : Eqn P f args [] (.d (.bool true)) []) {W : World} {vs : List Value} (h : V.reps (memW W) args vs) :
    Calls P f vs.toArray W (fun e W' => e = .returned (.bool true) ∧ Same W W') := by
  rcases E.run (memW W) vs ⟨fun b h => h, fun n b h => by cases h⟩ h (by simp) (fun n i b h => by simp at h) (fun _ _ => rfl) with ⟨v, h1, _⟩ | ⟨_, h2⟩
  · rw [fnOf_enter hf] at h1; cases h1
  · refine h2.mono ?_
    rintro e w' ⟨v, m', rfl, rfl, hE⟩
    have hv := hE.rep
    rw [V.rep_d] at hv
    unfold D.rep at hv
    subst hv
    exact ⟨rfl, hE.le.os, hE.le.tape, hE.le.output, hE.le.size, fun k hk _ => hE.le.imm k hk⟩

theorem reps_of {I : Nat → Prop} {w : World} {α : Type} (f : α → D) (g : α → Value) (h : ∀ a, D.rep I w (f a) (g a)) : ∀ l : List α, D.reps I w (l.map f) (l.map g)
  | [] => by simp
  | a :: l => by
    rw [List.map_cons, List.map_cons, D.reps_cons]
    exact ⟨h a, reps_of f g h l⟩

/-- a slice that came in, of cells that are data -/
theorem rep_cells {W : World} {v : Value} {α : Type} {l : List α} (f : α → D) (g : α → Value) (hg : ∀ a, (g a).oneCell' = true) (hr : ∀ a, D.rep (fun b => b < W.heap.size) W (f a) (g a)) (h : Cells W v 1 l.length (l.map g)) : V.rep (memW W) (.d (.sl l.length (l.map f))) v := by
  rw [V.rep_d]
  unfold D.rep
  obtain ⟨h1, p, cap, rfl, h2, h3, h4⟩ := h
  refine ⟨p, cap, rfl, h2, h3, l.map g, fun u hu => ?_, reps_of f g hr l, ?_⟩
  · obtain ⟨a, -, rfl⟩ := List.mem_map.1 hu
    exact hg a
  · rcases h4 with ⟨rfl, h5, h6⟩ | ⟨b, o, rfl, hb, hc⟩
    · left
      exact ⟨rfl, h6, by rw [List.eq_nil_of_length_eq_zero h5]; rfl⟩
    · exact .inr ⟨b, o, rfl, .inr hb, hc⟩

/-- bools that came in -/
theorem rep_bools {W : World} {v : Value} {cs : List Bool} (h : Bools W v cs) : V.rep (memW W) (.d (.sl cs.length (cs.map .bool))) v :=
  rep_cells D.bool Value.bool (fun _ => rfl) (fun _ => by unfold D.rep; rfl) h
theorem bools_len {W : World} {v : Value} {cs : List Bool} (h : Bools W v cs) : cs.length ≤ maxLen := h.len

/-- numbers and bools that came in -/
theorem rep_agg {W : World} {l : List D} {vs : List Value} (h1 : ∀ u ∈ vs, u.oneCell' = true) (h : D.reps (fun b => b < W.heap.size) W l vs) : V.rep (memW W) (.d (.agg l)) (.agg vs.toArray) := by
  rw [V.rep_d]
  unfold D.rep
  exact ⟨vs, rfl, h1, h⟩
end
end Go.Proofs.YtdbfenhaljmbfaaGreat.Am
namespace Go.Proofs.YtdbfenhaljmbfaaGreat.Am
section
set_option linter.unusedVariables false
set_option linter.unusedSimpArgs false
open Go.RowKit
set_option maxRecDepth 100000
set_option linter.unusedSimpArgs false
set_option linter.unusedVariables false

/-- what an act comes to: n more, or another one merged into it -/
def actM (cs : List Bool) (k a b y t : Nat) (f : Bool) (z u : Nat) (g : Bool) (n : Nat) (m : Bool) (p : Nat) (d : Bool) : TR := if m then mergeRM cs k a b y t f z u g p d else addRM cs k a b n y t f p d
end
end Go.Proofs.YtdbfenhaljmbfaaGreat.Am
namespace Go.Proofs.YtdbfenhaljmbfaaGreat.Am
section
set_option linter.unusedVariables false
set_option linter.unusedSimpArgs false
open Go.RowKit
set_option maxRecDepth 100000
set_option linter.unusedSimpArgs false
set_option linter.unusedVariables false

/-- registers beside the array, in cells -/
def aloneV (l : List ST) : List V := l.flatMap fun s => [.d (.int .i64 s.1), .d (.int .i64 s.2.1), .d (.bool s.2.2)]
@[simp] theorem alone_low (n : Nat) (l : List ST) : V.lowl n (aloneV l) = true := by induction l <;> simp_all [aloneV]

/-- pairs of numbers, as data -/
def actsL (l : List (Int × Int)) : List D := l.flatMap fun a => [.int .i64 a.1, .int .i64 a.2]
end
end Go.Proofs.YtdbfenhaljmbfaaGreat.Am
