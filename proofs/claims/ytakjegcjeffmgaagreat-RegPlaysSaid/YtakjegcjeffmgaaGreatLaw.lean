/- Parts of the proof: Reg2, Reg3, Reg4, Reg5, ChainG, ChainH, AmLaw, Reg6, Reg7, ChainI, ChainJ, RegL. -/
import Derived.Test.YtakjegcjeffmgaaGreatPe
namespace Go.Proofs.YtakjegcjeffmgaaGreat.Am
section
open Go.RowKit
set_option maxRecDepth 100000
set_option linter.unusedSimpArgs false
set_option linter.unusedVariables false

def wellTB (a b y t : Nat) (f : Bool) : Bool := decide (y ≤ a) && (decide (t ≤ b) && (!f || t == b))
theorem twellB_ok {a b : Nat} (h : GoodT a b) (y t : Nat) (f : Bool) : Eqn Tryz.prog n_thin_Param_Well [.d (tpD a b), .d (tsD y t f)] [] (.d (.bool (wellTB a b y t f))) [] := by
  refine Eqn.pure r_thin_Param_Well Plain.ok ?_
  have hc := tcheck_ok h
  have g3 : (0 : Int) ≤ y := by omega
  have g4 : (0 : Int) ≤ t := by omega
  simp only [c_thin_Param_Well, tpD, tsD, wellTB] at hc ⊢
  by_cases h1 : y ≤ a
  · have h1' : (y : Int) ≤ a := by omega
    by_cases h2 : t ≤ b
    · have h2' : (t : Int) ≤ b := by omega
      cases f with
      | true =>
        by_cases h3 : t = b
        · subst h3
          repeat (first | refine AW.seq ?_ | refine AW.block ?_ | (refine AW.reg mix ?_; simp (implicitDefEqProofs := false) [g3, g4, h1, h1', h2, h2']; try simp (disch := omega) only [w64, wu64]) | (refine need.of (by first | omega | kernel_rfl) ?_) | (refine AW.fin ?_; try simp (implicitDefEqProofs := false) [g3, g4, h1, h1', h2, h2']))
          refine CallS.pu (hc) ?_
          (try (simp (implicitDefEqProofs := false) [g3, g4, h1, h1', h2, h2']; try simp (disch := omega) only [w64, wu64]))
          repeat (first | refine AW.seq ?_ | refine AW.block ?_ | (refine AW.reg mix ?_; simp (implicitDefEqProofs := false) [g3, g4, h1, h1', h2, h2']; try simp (disch := omega) only [w64, wu64]) | (refine need.of (by first | omega | kernel_rfl) ?_) | (refine AW.fin ?_; try simp (implicitDefEqProofs := false) [g3, g4, h1, h1', h2, h2']))
        · have h3' : ¬ (t : Int) = b := by omega
          repeat (first | refine AW.seq ?_ | refine AW.block ?_ | (refine AW.reg mix ?_; simp (implicitDefEqProofs := false) [g3, g4, h1, h1', h2, h2', h3, h3']; try simp (disch := omega) only [w64, wu64]) | (refine need.of (by first | omega | kernel_rfl) ?_) | (refine AW.fin ?_; try simp (implicitDefEqProofs := false) [g3, g4, h1, h1', h2, h2', h3, h3']))
          refine CallS.pu (hc) ?_
          (try (simp (implicitDefEqProofs := false) [g3, g4, h1, h1', h2, h2', h3, h3']; try simp (disch := omega) only [w64, wu64]))
          repeat (first | refine AW.seq ?_ | refine AW.block ?_ | (refine AW.reg mix ?_; simp (implicitDefEqProofs := false) [g3, g4, h1, h1', h2, h2', h3, h3']; try simp (disch := omega) only [w64, wu64]) | (refine need.of (by first | omega | kernel_rfl) ?_) | (refine AW.fin ?_; try simp (implicitDefEqProofs := false) [g3, g4, h1, h1', h2, h2', h3, h3']))
          exact Sub1.bool (by rw [Bool.eq_iff_iff]; simp; omega)
      | false =>
        repeat (first | refine AW.seq ?_ | refine AW.block ?_ | (refine AW.reg mix ?_; simp (implicitDefEqProofs := false) [g3, g4, h1, h1', h2, h2']; try simp (disch := omega) only [w64, wu64]) | (refine need.of (by first | omega | kernel_rfl) ?_) | (refine AW.fin ?_; try simp (implicitDefEqProofs := false) [g3, g4, h1, h1', h2, h2']))
        refine CallS.pu (hc) ?_
        (try (simp (implicitDefEqProofs := false) [g3, g4, h1, h1', h2, h2']; try simp (disch := omega) only [w64, wu64]))
        repeat (first | refine AW.seq ?_ | refine AW.block ?_ | (refine AW.reg mix ?_; simp (implicitDefEqProofs := false) [g3, g4, h1, h1', h2, h2']; try simp (disch := omega) only [w64, wu64]) | (refine need.of (by first | omega | kernel_rfl) ?_) | (refine AW.fin ?_; try simp (implicitDefEqProofs := false) [g3, g4, h1, h1', h2, h2']))
    · have h2' : ¬ (t : Int) ≤ b := by omega
      repeat (first | refine AW.seq ?_ | refine AW.block ?_ | (refine AW.reg mix ?_; simp (implicitDefEqProofs := false) [g3, g4, h1, h1', h2, h2']; try simp (disch := omega) only [w64, wu64]) | (refine need.of (by first | omega | kernel_rfl) ?_) | (refine AW.fin ?_; try simp (implicitDefEqProofs := false) [g3, g4, h1, h1', h2, h2']))
      refine CallS.pu (hc) ?_
      (try (simp (implicitDefEqProofs := false) [g3, g4, h1, h1', h2, h2']; try simp (disch := omega) only [w64, wu64]))
      repeat (first | refine AW.seq ?_ | refine AW.block ?_ | (refine AW.reg mix ?_; simp (implicitDefEqProofs := false) [g3, g4, h1, h1', h2, h2']; try simp (disch := omega) only [w64, wu64]) | (refine need.of (by first | omega | kernel_rfl) ?_) | (refine AW.fin ?_; try simp (implicitDefEqProofs := false) [g3, g4, h1, h1', h2, h2']))
  · have h1' : ¬ (y : Int) ≤ a := by omega
    repeat (first | refine AW.seq ?_ | refine AW.block ?_ | (refine AW.reg mix ?_; simp (implicitDefEqProofs := false) [g3, g4, h1, h1']; try simp (disch := omega) only [w64, wu64]) | (refine need.of (by first | omega | kernel_rfl) ?_) | (refine AW.fin ?_; try simp (implicitDefEqProofs := false) [g3, g4, h1, h1']))
    refine CallS.pu (hc) ?_
    (try (simp (implicitDefEqProofs := false) [g3, g4, h1, h1']; try simp (disch := omega) only [w64, wu64]))
    repeat (first | refine AW.seq ?_ | refine AW.block ?_ | (refine AW.reg mix ?_; simp (implicitDefEqProofs := false) [g3, g4, h1, h1']; try simp (disch := omega) only [w64, wu64]) | (refine need.of (by first | omega | kernel_rfl) ?_) | (refine AW.fin ?_; try simp (implicitDefEqProofs := false) [g3, g4, h1, h1']))

theorem rthin_ok (k a b : Int) : Eqn Tryz.prog n_reg_Param_thin [.d (parD k a b)] [] (.d (tpD a b)) [] := by
  refine Eqn.pure r_reg_Param_thin Plain.ok ?_
  simp only [c_reg_Param_thin, parD, tpD]
  repeat (first | refine AW.seq ?_ | refine AW.block ?_ | (refine AW.reg mix ?_; simp (implicitDefEqProofs := false); try simp (disch := omega) only [w64, wu64]) | (refine need.of (by first | omega | kernel_rfl) ?_) | (refine AW.fin ?_; try simp (implicitDefEqProofs := false)))
theorem rchain_ok (k a b : Int) : Eqn Tryz.prog n_reg_Param_chain [.d (parD k a b)] [] (.d (parD k a b)) [] := by
  refine Eqn.pure r_reg_Param_chain Plain.ok ?_
  simp only [c_reg_Param_chain, parD]
  repeat (first | refine AW.seq ?_ | refine AW.block ?_ | (refine AW.reg mix ?_; simp (implicitDefEqProofs := false); try simp (disch := omega) only [w64, wu64]) | (refine need.of (by first | omega | kernel_rfl) ?_) | (refine AW.fin ?_; try simp (implicitDefEqProofs := false)))
theorem rthinned_ok (y t : Int) (f : Bool) : Eqn Tryz.prog n_reg_State_thinned [.d (.agg [.int .i64 y, .int .i64 t, .bool f])] [] (.d (.agg [.int .i64 y, .int .i64 t, .bool f])) [] := by
  refine Eqn.pure r_reg_State_thinned Plain.ok ?_
  simp only [c_reg_State_thinned]
  repeat (first | refine AW.seq ?_ | refine AW.block ?_ | (refine AW.reg mix ?_; simp (implicitDefEqProofs := false); try simp (disch := omega) only [w64, wu64]) | (refine need.of (by first | omega | kernel_rfl) ?_) | (refine AW.fin ?_; try simp (implicitDefEqProofs := false)))
theorem runthinned_ok (y t : Int) (f : Bool) : Eqn Tryz.prog n_reg_unthinned [.d (.agg [.int .i64 y, .int .i64 t, .bool f])] [] (.d (.agg [.int .i64 y, .int .i64 t, .bool f])) [] := by
  refine Eqn.pure r_reg_unthinned Plain.ok ?_
  simp only [c_reg_unthinned]
  repeat (first | refine AW.seq ?_ | refine AW.block ?_ | (refine AW.reg mix ?_; simp (implicitDefEqProofs := false); try simp (disch := omega) only [w64, wu64]) | (refine need.of (by first | omega | kernel_rfl) ?_) | (refine AW.fin ?_; try simp (implicitDefEqProofs := false)))
theorem rlink_ok (y t : Int) (f : Bool) : Eqn Tryz.prog n_reg_State_link [.d (.agg [.int .i64 y, .int .i64 t, .bool f])] [] (.d (.agg [.int .i64 y, .bool f])) [] := by
  refine Eqn.pure r_reg_State_link Plain.ok ?_
  simp only [c_reg_State_link]
  repeat (first | refine AW.seq ?_ | refine AW.block ?_ | (refine AW.reg mix ?_; simp (implicitDefEqProofs := false); try simp (disch := omega) only [w64, wu64]) | (refine need.of (by first | omega | kernel_rfl) ?_) | (refine AW.fin ?_; try simp (implicitDefEqProofs := false)))
theorem rlinked_ok (y : Int) (f : Bool) : Eqn Tryz.prog n_reg_linked [.d (.agg [.int .i64 y, .bool f])] [] (.d (.agg [.int .i64 y, .int .i64 0, .bool f])) [] := by
  refine Eqn.pure r_reg_linked Plain.ok ?_
  simp only [c_reg_linked]
  repeat (first | refine AW.seq ?_ | refine AW.block ?_ | (refine AW.reg mix ?_; simp (implicitDefEqProofs := false); try simp (disch := omega) only [w64, wu64]) | (refine need.of (by first | omega | kernel_rfl) ?_) | (refine AW.fin ?_; try simp (implicitDefEqProofs := false)))

theorem rcheck_ok {k a b : Nat} (h : GoodR k a b) : Eqn Tryz.prog n_reg_Param_Check [.d (parD k a b)] [] (.d (.int .i64 0)) [] := by
  refine Eqn.pure r_reg_Param_Check Plain.ok ?_
  rcases h with ⟨rfl, h⟩ | ⟨hk, h⟩
  · have h1 := rthin_ok 4 a b
    have h2 := tcheck_ok h
    simp only [c_reg_Param_Check, parD, tpD] at h1 h2 ⊢
    repeat (first | refine AW.seq ?_ | refine AW.block ?_ | (refine AW.reg mix ?_; simp (implicitDefEqProofs := false); try simp (disch := omega) only [w64, wu64]) | (refine need.of (by first | omega | kernel_rfl) ?_) | (refine AW.fin ?_; try simp (implicitDefEqProofs := false)))
    refine AW.cond rfl (fun h => ?_) (fun h => ?_)
    · repeat (first | refine AW.seq ?_ | refine AW.block ?_ | (refine AW.reg mix ?_; simp (implicitDefEqProofs := false); try simp (disch := omega) only [w64, wu64]) | (refine need.of (by first | omega | kernel_rfl) ?_) | (refine AW.fin ?_; try simp (implicitDefEqProofs := false)))
      refine CallS.pu (h1) ?_
      (try (simp (implicitDefEqProofs := false); try simp (disch := omega) only [w64, wu64]))
      repeat (first | refine AW.seq ?_ | refine AW.block ?_ | (refine AW.reg mix ?_; simp (implicitDefEqProofs := false); try simp (disch := omega) only [w64, wu64]) | (refine need.of (by first | omega | kernel_rfl) ?_) | (refine AW.fin ?_; try simp (implicitDefEqProofs := false)))
      refine CallS.pu (h2) ?_
      (try (simp (implicitDefEqProofs := false); try simp (disch := omega) only [w64, wu64]))
      repeat (first | refine AW.seq ?_ | refine AW.block ?_ | (refine AW.reg mix ?_; simp (implicitDefEqProofs := false); try simp (disch := omega) only [w64, wu64]) | (refine need.of (by first | omega | kernel_rfl) ?_) | (refine AW.fin ?_; try simp (implicitDefEqProofs := false)))
    · simp at h
  · have h1 := rchain_ok k a b
    have h2 := goodC_check h
    have hk' : ¬ (k : Int) = 4 := by omega
    simp only [c_reg_Param_Check, parD] at h1 h2 ⊢
    repeat (first | refine AW.seq ?_ | refine AW.block ?_ | (refine AW.reg mix ?_; simp (implicitDefEqProofs := false) [hk, hk']; try simp (disch := omega) only [w64, wu64]) | (refine need.of (by first | omega | kernel_rfl) ?_) | (refine AW.fin ?_; try simp (implicitDefEqProofs := false) [hk, hk']))
    refine AW.cond rfl (fun h => ?_) (fun h => ?_)
    · simp [hk'] at h
    · repeat (first | refine AW.seq ?_ | refine AW.block ?_ | (refine AW.reg mix ?_; simp (implicitDefEqProofs := false); try simp (disch := omega) only [w64, wu64]) | (refine need.of (by first | omega | kernel_rfl) ?_) | (refine AW.fin ?_; try simp (implicitDefEqProofs := false)))
      refine CallS.pu (h1) ?_
      (try (simp (implicitDefEqProofs := false); try simp (disch := omega) only [w64, wu64]))
      repeat (first | refine AW.seq ?_ | refine AW.block ?_ | (refine AW.reg mix ?_; simp (implicitDefEqProofs := false); try simp (disch := omega) only [w64, wu64]) | (refine need.of (by first | omega | kernel_rfl) ?_) | (refine AW.fin ?_; try simp (implicitDefEqProofs := false)))
      refine CallS.pu (h2) ?_
      (try (simp (implicitDefEqProofs := false); try simp (disch := omega) only [w64, wu64]))
      repeat (first | refine AW.seq ?_ | refine AW.block ?_ | (refine AW.reg mix ?_; simp (implicitDefEqProofs := false); try simp (disch := omega) only [w64, wu64]) | (refine need.of (by first | omega | kernel_rfl) ?_) | (refine AW.fin ?_; try simp (implicitDefEqProofs := false)))

def wellRB (k a b y t : Nat) (f : Bool) : Bool := if k = 4 then wellTB a b y t f else (t == 0) && (decide (y ≤ 2 ^ b - 1) && (!f || y == 2 ^ b - 1))
theorem wellRB_iff {k a b y t : Nat} {f : Bool} : wellRB k a b y t f = true ↔ WellR k a b y t f := by
  unfold wellRB WellR wellTB WellT
  by_cases hk : k = 4
  · subst hk
    simp
    intro _ _
    cases f <;> simp
  · simp [hk]
    intro _ _
    cases f <;> simp

theorem rwell_ok {k a b : Nat} (h : GoodR k a b) (y t : Nat) (f : Bool) : Eqn Tryz.prog n_reg_Param_Well [.d (parD k a b), .d (tsD y t f)] [] (.d (.bool (wellRB k a b y t f))) [] := by
  refine Eqn.pure r_reg_Param_Well Plain.ok ?_
  have hc := rcheck_ok h
  rcases h with ⟨rfl, h⟩ | ⟨hk, h⟩
  · have h1 := rthin_ok 4 a b
    have h2 := twellB_ok h y t f
    have h3 := rthinned_ok y t f
    simp only [c_reg_Param_Well, parD, tpD, tsD, wellRB, if_true] at hc h1 h2 h3 ⊢
    generalize wellTB a b y t f = w at *
    repeat (first | refine AW.seq ?_ | refine AW.block ?_ | (refine AW.reg mix ?_; simp (implicitDefEqProofs := false); try simp (disch := omega) only [w64, wu64]) | (refine need.of (by first | omega | kernel_rfl) ?_) | (refine AW.fin ?_; try simp (implicitDefEqProofs := false)))
    refine CallS.pu (hc) ?_
    (try (simp (implicitDefEqProofs := false); try simp (disch := omega) only [w64, wu64]))
    repeat (first | refine AW.seq ?_ | refine AW.block ?_ | (refine AW.reg mix ?_; simp (implicitDefEqProofs := false); try simp (disch := omega) only [w64, wu64]) | (refine need.of (by first | omega | kernel_rfl) ?_) | (refine AW.fin ?_; try simp (implicitDefEqProofs := false)))
    refine AW.cond rfl (fun h => ?_) (fun h => ?_)
    · simp at h
    repeat (first | refine AW.seq ?_ | refine AW.block ?_ | (refine AW.reg mix ?_; simp (implicitDefEqProofs := false); try simp (disch := omega) only [w64, wu64]) | (refine need.of (by first | omega | kernel_rfl) ?_) | (refine AW.fin ?_; try simp (implicitDefEqProofs := false)))
    refine AW.cond rfl (fun h => ?_) (fun h => ?_)
    · repeat (first | refine AW.seq ?_ | refine AW.block ?_ | (refine AW.reg mix ?_; simp (implicitDefEqProofs := false); try simp (disch := omega) only [w64, wu64]) | (refine need.of (by first | omega | kernel_rfl) ?_) | (refine AW.fin ?_; try simp (implicitDefEqProofs := false)))
      refine CallS.pu (h1) ?_
      (try (simp (implicitDefEqProofs := false); try simp (disch := omega) only [w64, wu64]))
      repeat (first | refine AW.seq ?_ | refine AW.block ?_ | (refine AW.reg mix ?_; simp (implicitDefEqProofs := false); try simp (disch := omega) only [w64, wu64]) | (refine need.of (by first | omega | kernel_rfl) ?_) | (refine AW.fin ?_; try simp (implicitDefEqProofs := false)))
      refine CallS.pu (h3) ?_
      (try (simp (implicitDefEqProofs := false); try simp (disch := omega) only [w64, wu64]))
      repeat (first | refine AW.seq ?_ | refine AW.block ?_ | (refine AW.reg mix ?_; simp (implicitDefEqProofs := false); try simp (disch := omega) only [w64, wu64]) | (refine need.of (by first | omega | kernel_rfl) ?_) | (refine AW.fin ?_; try simp (implicitDefEqProofs := false)))
      refine CallS.pu (h2) ?_
      (try (simp (implicitDefEqProofs := false); try simp (disch := omega) only [w64, wu64]))
      repeat (first | refine AW.seq ?_ | refine AW.block ?_ | (refine AW.reg mix ?_; simp (implicitDefEqProofs := false); try simp (disch := omega) only [w64, wu64]) | (refine need.of (by first | omega | kernel_rfl) ?_) | (refine AW.fin ?_; try simp (implicitDefEqProofs := false)))
    · simp at h
  · have h1 := rchain_ok k a b
    have h2 := top_ok k a b h.2.2 (goodC_check h)
    have hk' : ¬ (k : Int) = 4 := by omega
    have g : (0 : Int) ≤ y := by omega
    simp only [c_reg_Param_Well, parD, tsD, wellRB, if_neg hk] at hc h1 h2 ⊢
    generalize 2 ^ b - 1 = S at *
    by_cases ht : t = 0
    · subst ht
      by_cases hy : y ≤ S
      · have hy' : (y : Int) ≤ S := by omega
        cases f with
        | true =>
          by_cases hs : y = S
          · subst hs
            repeat (first | refine AW.seq ?_ | refine AW.block ?_ | (refine AW.reg mix ?_; simp (implicitDefEqProofs := false) [g, hk, hk']; try simp (disch := omega) only [w64, wu64]) | (refine need.of (by first | omega | kernel_rfl) ?_) | (refine AW.fin ?_; try simp (implicitDefEqProofs := false) [g, hk, hk']))
            refine CallS.pu (hc) ?_
            (try (simp (implicitDefEqProofs := false) [g, hk, hk']; try simp (disch := omega) only [w64, wu64]))
            repeat (first | refine AW.seq ?_ | refine AW.block ?_ | (refine AW.reg mix ?_; simp (implicitDefEqProofs := false) [g, hk, hk']; try simp (disch := omega) only [w64, wu64]) | (refine need.of (by first | omega | kernel_rfl) ?_) | (refine AW.fin ?_; try simp (implicitDefEqProofs := false) [g, hk, hk']))
            refine AW.cond rfl (fun h => ?_) (fun h => ?_)
            · simp at h
            repeat (first | refine AW.seq ?_ | refine AW.block ?_ | (refine AW.reg mix ?_; simp (implicitDefEqProofs := false) [g, hk, hk']; try simp (disch := omega) only [w64, wu64]) | (refine need.of (by first | omega | kernel_rfl) ?_) | (refine AW.fin ?_; try simp (implicitDefEqProofs := false) [g, hk, hk']))
            refine AW.cond rfl (fun h => ?_) (fun h => ?_)
            · simp [hk'] at h
            repeat (first | refine AW.seq ?_ | refine AW.block ?_ | (refine AW.reg mix ?_; simp (implicitDefEqProofs := false) [g]; try simp (disch := omega) only [w64, wu64]) | (refine need.of (by first | omega | kernel_rfl) ?_) | (refine AW.fin ?_; try simp (implicitDefEqProofs := false) [g]))
            refine CallS.pu (h1) ?_
            (try (simp (implicitDefEqProofs := false) [g]; try simp (disch := omega) only [w64, wu64]))
            repeat (first | refine AW.seq ?_ | refine AW.block ?_ | (refine AW.reg mix ?_; simp (implicitDefEqProofs := false) [g]; try simp (disch := omega) only [w64, wu64]) | (refine need.of (by first | omega | kernel_rfl) ?_) | (refine AW.fin ?_; try simp (implicitDefEqProofs := false) [g]))
            refine CallS.pu (h2) ?_
            (try (simp (implicitDefEqProofs := false) [g]; try simp (disch := omega) only [w64, wu64]))
            repeat (first | refine AW.seq ?_ | refine AW.block ?_ | (refine AW.reg mix ?_; simp (implicitDefEqProofs := false) [g]; try simp (disch := omega) only [w64, wu64]) | (refine need.of (by first | omega | kernel_rfl) ?_) | (refine AW.fin ?_; try simp (implicitDefEqProofs := false) [g]))
          · have hs' : ¬ (y : Int) = S := by omega
            repeat (first | refine AW.seq ?_ | refine AW.block ?_ | (refine AW.reg mix ?_; simp (implicitDefEqProofs := false) [g, hk, hk', hy, hy', hs, hs']; try simp (disch := omega) only [w64, wu64]) | (refine need.of (by first | omega | kernel_rfl) ?_) | (refine AW.fin ?_; try simp (implicitDefEqProofs := false) [g, hk, hk', hy, hy', hs, hs']))
            refine CallS.pu (hc) ?_
            (try (simp (implicitDefEqProofs := false) [g, hk, hk', hy, hy', hs, hs']; try simp (disch := omega) only [w64, wu64]))
            repeat (first | refine AW.seq ?_ | refine AW.block ?_ | (refine AW.reg mix ?_; simp (implicitDefEqProofs := false) [g, hk, hk', hy, hy', hs, hs']; try simp (disch := omega) only [w64, wu64]) | (refine need.of (by first | omega | kernel_rfl) ?_) | (refine AW.fin ?_; try simp (implicitDefEqProofs := false) [g, hk, hk', hy, hy', hs, hs']))
            refine AW.cond rfl (fun h => ?_) (fun h => ?_)
            · simp at h
            repeat (first | refine AW.seq ?_ | refine AW.block ?_ | (refine AW.reg mix ?_; simp (implicitDefEqProofs := false) [g, hk, hk', hy, hy', hs, hs']; try simp (disch := omega) only [w64, wu64]) | (refine need.of (by first | omega | kernel_rfl) ?_) | (refine AW.fin ?_; try simp (implicitDefEqProofs := false) [g, hk, hk', hy, hy', hs, hs']))
            refine AW.cond rfl (fun h => ?_) (fun h => ?_)
            · simp [hk'] at h
            repeat (first | refine AW.seq ?_ | refine AW.block ?_ | (refine AW.reg mix ?_; simp (implicitDefEqProofs := false) [g]; try simp (disch := omega) only [w64, wu64]) | (refine need.of (by first | omega | kernel_rfl) ?_) | (refine AW.fin ?_; try simp (implicitDefEqProofs := false) [g]))
            refine CallS.pu (h1) ?_
            (try (simp (implicitDefEqProofs := false) [g]; try simp (disch := omega) only [w64, wu64]))
            repeat (first | refine AW.seq ?_ | refine AW.block ?_ | (refine AW.reg mix ?_; simp (implicitDefEqProofs := false) [g]; try simp (disch := omega) only [w64, wu64]) | (refine need.of (by first | omega | kernel_rfl) ?_) | (refine AW.fin ?_; try simp (implicitDefEqProofs := false) [g]))
            refine CallS.pu (h2) ?_
            (try (simp (implicitDefEqProofs := false) [g, hy, hy', hs, hs']; try simp (disch := omega) only [w64, wu64]))
            repeat (first | refine AW.seq ?_ | refine AW.block ?_ | (refine AW.reg mix ?_; simp (implicitDefEqProofs := false) [g, hy, hy', hs, hs']; try simp (disch := omega) only [w64, wu64]) | (refine need.of (by first | omega | kernel_rfl) ?_) | (refine AW.fin ?_; try simp (implicitDefEqProofs := false) [g, hy, hy', hs, hs']))
            exact Sub1.bool (by rw [Bool.eq_iff_iff]; simp; omega)
        | false =>
          repeat (first | refine AW.seq ?_ | refine AW.block ?_ | (refine AW.reg mix ?_; simp (implicitDefEqProofs := false) [g, hk, hk', hy, hy']; try simp (disch := omega) only [w64, wu64]) | (refine need.of (by first | omega | kernel_rfl) ?_) | (refine AW.fin ?_; try simp (implicitDefEqProofs := false) [g, hk, hk', hy, hy']))
          refine CallS.pu (hc) ?_
          (try (simp (implicitDefEqProofs := false) [g, hk, hk', hy, hy']; try simp (disch := omega) only [w64, wu64]))
          repeat (first | refine AW.seq ?_ | refine AW.block ?_ | (refine AW.reg mix ?_; simp (implicitDefEqProofs := false) [g, hk, hk', hy, hy']; try simp (disch := omega) only [w64, wu64]) | (refine need.of (by first | omega | kernel_rfl) ?_) | (refine AW.fin ?_; try simp (implicitDefEqProofs := false) [g, hk, hk', hy, hy']))
          refine AW.cond rfl (fun h => ?_) (fun h => ?_)
          · simp at h
          repeat (first | refine AW.seq ?_ | refine AW.block ?_ | (refine AW.reg mix ?_; simp (implicitDefEqProofs := false) [g, hk, hk', hy, hy']; try simp (disch := omega) only [w64, wu64]) | (refine need.of (by first | omega | kernel_rfl) ?_) | (refine AW.fin ?_; try simp (implicitDefEqProofs := false) [g, hk, hk', hy, hy']))
          refine AW.cond rfl (fun h => ?_) (fun h => ?_)
          · simp [hk'] at h
          repeat (first | refine AW.seq ?_ | refine AW.block ?_ | (refine AW.reg mix ?_; simp (implicitDefEqProofs := false) [g]; try simp (disch := omega) only [w64, wu64]) | (refine need.of (by first | omega | kernel_rfl) ?_) | (refine AW.fin ?_; try simp (implicitDefEqProofs := false) [g]))
          refine CallS.pu (h1) ?_
          (try (simp (implicitDefEqProofs := false) [g]; try simp (disch := omega) only [w64, wu64]))
          repeat (first | refine AW.seq ?_ | refine AW.block ?_ | (refine AW.reg mix ?_; simp (implicitDefEqProofs := false) [g]; try simp (disch := omega) only [w64, wu64]) | (refine need.of (by first | omega | kernel_rfl) ?_) | (refine AW.fin ?_; try simp (implicitDefEqProofs := false) [g]))
          refine CallS.pu (h2) ?_
          (try (simp (implicitDefEqProofs := false) [g, hy, hy']; try simp (disch := omega) only [w64, wu64]))
          repeat (first | refine AW.seq ?_ | refine AW.block ?_ | (refine AW.reg mix ?_; simp (implicitDefEqProofs := false) [g, hy, hy']; try simp (disch := omega) only [w64, wu64]) | (refine need.of (by first | omega | kernel_rfl) ?_) | (refine AW.fin ?_; try simp (implicitDefEqProofs := false) [g, hy, hy']))
      · have hy' : ¬ (y : Int) ≤ S := by omega
        repeat (first | refine AW.seq ?_ | refine AW.block ?_ | (refine AW.reg mix ?_; simp (implicitDefEqProofs := false) [g, hk, hk', hy, hy']; try simp (disch := omega) only [w64, wu64]) | (refine need.of (by first | omega | kernel_rfl) ?_) | (refine AW.fin ?_; try simp (implicitDefEqProofs := false) [g, hk, hk', hy, hy']))
        refine CallS.pu (hc) ?_
        (try (simp (implicitDefEqProofs := false) [g, hk, hk', hy, hy']; try simp (disch := omega) only [w64, wu64]))
        repeat (first | refine AW.seq ?_ | refine AW.block ?_ | (refine AW.reg mix ?_; simp (implicitDefEqProofs := false) [g, hk, hk', hy, hy']; try simp (disch := omega) only [w64, wu64]) | (refine need.of (by first | omega | kernel_rfl) ?_) | (refine AW.fin ?_; try simp (implicitDefEqProofs := false) [g, hk, hk', hy, hy']))
        refine AW.cond rfl (fun h => ?_) (fun h => ?_)
        · simp at h
        repeat (first | refine AW.seq ?_ | refine AW.block ?_ | (refine AW.reg mix ?_; simp (implicitDefEqProofs := false) [g, hk, hk', hy, hy']; try simp (disch := omega) only [w64, wu64]) | (refine need.of (by first | omega | kernel_rfl) ?_) | (refine AW.fin ?_; try simp (implicitDefEqProofs := false) [g, hk, hk', hy, hy']))
        refine AW.cond rfl (fun h => ?_) (fun h => ?_)
        · simp [hk'] at h
        repeat (first | refine AW.seq ?_ | refine AW.block ?_ | (refine AW.reg mix ?_; simp (implicitDefEqProofs := false) [g]; try simp (disch := omega) only [w64, wu64]) | (refine need.of (by first | omega | kernel_rfl) ?_) | (refine AW.fin ?_; try simp (implicitDefEqProofs := false) [g]))
        refine CallS.pu (h1) ?_
        (try (simp (implicitDefEqProofs := false) [g]; try simp (disch := omega) only [w64, wu64]))
        repeat (first | refine AW.seq ?_ | refine AW.block ?_ | (refine AW.reg mix ?_; simp (implicitDefEqProofs := false) [g]; try simp (disch := omega) only [w64, wu64]) | (refine need.of (by first | omega | kernel_rfl) ?_) | (refine AW.fin ?_; try simp (implicitDefEqProofs := false) [g]))
        refine CallS.pu (h2) ?_
        (try (simp (implicitDefEqProofs := false) [g, hy, hy']; try simp (disch := omega) only [w64, wu64]))
        repeat (first | refine AW.seq ?_ | refine AW.block ?_ | (refine AW.reg mix ?_; simp (implicitDefEqProofs := false) [g, hy, hy']; try simp (disch := omega) only [w64, wu64]) | (refine need.of (by first | omega | kernel_rfl) ?_) | (refine AW.fin ?_; try simp (implicitDefEqProofs := false) [g, hy, hy']))
    · have ht' : ¬ (t : Int) = 0 := by omega
      repeat (first | refine AW.seq ?_ | refine AW.block ?_ | (refine AW.reg mix ?_; simp (implicitDefEqProofs := false) [g, hk, hk', ht, ht']; try simp (disch := omega) only [w64, wu64]) | (refine need.of (by first | omega | kernel_rfl) ?_) | (refine AW.fin ?_; try simp (implicitDefEqProofs := false) [g, hk, hk', ht, ht']))
      refine CallS.pu (hc) ?_
      (try (simp (implicitDefEqProofs := false) [g, hk, hk', ht, ht']; try simp (disch := omega) only [w64, wu64]))
      repeat (first | refine AW.seq ?_ | refine AW.block ?_ | (refine AW.reg mix ?_; simp (implicitDefEqProofs := false) [g, hk, hk', ht, ht']; try simp (disch := omega) only [w64, wu64]) | (refine need.of (by first | omega | kernel_rfl) ?_) | (refine AW.fin ?_; try simp (implicitDefEqProofs := false) [g, hk, hk', ht, ht']))
      refine AW.cond rfl (fun h => ?_) (fun h => ?_)
      · simp at h
      repeat (first | refine AW.seq ?_ | refine AW.block ?_ | (refine AW.reg mix ?_; simp (implicitDefEqProofs := false) [g, hk, hk', ht, ht']; try simp (disch := omega) only [w64, wu64]) | (refine need.of (by first | omega | kernel_rfl) ?_) | (refine AW.fin ?_; try simp (implicitDefEqProofs := false) [g, hk, hk', ht, ht']))
      refine AW.cond rfl (fun h => ?_) (fun h => ?_)
      · simp [hk'] at h
      repeat (first | refine AW.seq ?_ | refine AW.block ?_ | (refine AW.reg mix ?_; simp (implicitDefEqProofs := false) [g]; try simp (disch := omega) only [w64, wu64]) | (refine need.of (by first | omega | kernel_rfl) ?_) | (refine AW.fin ?_; try simp (implicitDefEqProofs := false) [g]))
      refine CallS.pu (h1) ?_
      (try (simp (implicitDefEqProofs := false) [g]; try simp (disch := omega) only [w64, wu64]))
      repeat (first | refine AW.seq ?_ | refine AW.block ?_ | (refine AW.reg mix ?_; simp (implicitDefEqProofs := false) [g]; try simp (disch := omega) only [w64, wu64]) | (refine need.of (by first | omega | kernel_rfl) ?_) | (refine AW.fin ?_; try simp (implicitDefEqProofs := false) [g]))
      refine CallS.pu (h2) ?_
      (try (simp (implicitDefEqProofs := false) [g, ht, ht']; try simp (disch := omega) only [w64, wu64]))
      repeat (first | refine AW.seq ?_ | refine AW.block ?_ | (refine AW.reg mix ?_; simp (implicitDefEqProofs := false) [g, ht, ht']; try simp (disch := omega) only [w64, wu64]) | (refine need.of (by first | omega | kernel_rfl) ?_) | (refine AW.fin ?_; try simp (implicitDefEqProofs := false) [g, ht, ht']))
      exact Sub1.bool (by simp [ht])

theorem rwrong1_ok {k a b y t : Nat} {f : Bool} (h : GoodR k a b) (hw : WellR k a b y t f) : Eqn Tryz.prog n_reg_Param_wrong [.d (parD k a b), .d (.sl 1 [.int .i64 y, .int .i64 t, .bool f])] [] (.d (.int .i64 0)) [] := by
  refine Eqn.pure r_reg_Param_wrong Plain.ok ?_
  have hc := rcheck_ok h
  have hw1 := rwell_ok h y t f
  rw [wellRB_iff.2 hw] at hw1
  simp only [c_reg_Param_wrong, parD, tsD] at hc hw1 ⊢
  repeat (first | refine AW.seq ?_ | refine AW.block ?_ | (refine AW.reg mix ?_; simp (implicitDefEqProofs := false); try simp (disch := omega) only [w64, wu64]) | (refine need.of (by first | omega | kernel_rfl) ?_) | (refine AW.fin ?_; try simp (implicitDefEqProofs := false)))
  refine CallS.pu (hc) ?_
  (try (simp (implicitDefEqProofs := false); try simp (disch := omega) only [w64, wu64]))
  repeat (first | refine AW.seq ?_ | refine AW.block ?_ | (refine AW.reg mix ?_; simp (implicitDefEqProofs := false); try simp (disch := omega) only [w64, wu64]) | (refine need.of (by first | omega | kernel_rfl) ?_) | (refine AW.fin ?_; try simp (implicitDefEqProofs := false)))
  refine AW.cond rfl (fun h => ?_) (fun h => ?_)
  · simp at h
  repeat (first | refine AW.seq ?_ | refine AW.block ?_ | (refine AW.reg mix ?_; simp (implicitDefEqProofs := false); try simp (disch := omega) only [w64, wu64]) | (refine need.of (by first | omega | kernel_rfl) ?_) | (refine AW.fin ?_; try simp (implicitDefEqProofs := false)))
  refine AW.loopT (α := Nat) 1 (fun i => [(15, .d (.int .i64 (i : Int)))]) (fun i => []) (fun i => i ≤ 1) (fun i => 1 - i) 0 ?_ ?_ (Nat.zero_le _) ?_ ?_ ?_
  · simp
  · simp
  · simp
  · simp
  rintro i hi
  simp
  have hi' : i = 0 ∨ i = 1 := by omega
  rcases hi' with rfl | rfl
  · repeat (first | refine AW.seq ?_ | refine AW.block ?_ | (refine AW.reg mix ?_; simp (implicitDefEqProofs := false); try simp (disch := omega) only [w64, wu64]) | (refine need.of (by first | omega | kernel_rfl) ?_) | (refine AW.fin ?_; try simp (implicitDefEqProofs := false)))
    refine AW.cond rfl (fun h => ?_) (fun h => ?_)
    · repeat (first | refine AW.seq ?_ | refine AW.block ?_ | (refine AW.reg mix ?_; simp (implicitDefEqProofs := false); try simp (disch := omega) only [w64, wu64]) | (refine need.of (by first | omega | kernel_rfl) ?_) | (refine AW.fin ?_; try simp (implicitDefEqProofs := false)))
      refine CallS.pu (hw1) ?_
      (try (simp (implicitDefEqProofs := false); try simp (disch := omega) only [w64, wu64]))
      repeat (first | refine AW.seq ?_ | refine AW.block ?_ | (refine AW.reg mix ?_; simp (implicitDefEqProofs := false); try simp (disch := omega) only [w64, wu64]) | (refine need.of (by first | omega | kernel_rfl) ?_) | (refine AW.fin ?_; try simp (implicitDefEqProofs := false)))
      refine AW.cond rfl (fun h => ?_) (fun h => ?_)
      · simp at h
      have ew : IntKind.i64.wrap 1 = 1 := w64 (by omega) (by omega)
      repeat (first | refine AW.seq ?_ | refine AW.block ?_ | (refine AW.reg mix ?_; simp (implicitDefEqProofs := false) [ew]; try simp (disch := omega) only [w64, wu64]) | (refine need.of (by first | omega | kernel_rfl) ?_) | (refine AW.fin ?_; try simp (implicitDefEqProofs := false) [ew]))
      exact ⟨1, by omega, by omega, by simp⟩
    · simp at h
  · repeat (first | refine AW.seq ?_ | refine AW.block ?_ | (refine AW.reg mix ?_; simp (implicitDefEqProofs := false); try simp (disch := omega) only [w64, wu64]) | (refine need.of (by first | omega | kernel_rfl) ?_) | (refine AW.fin ?_; try simp (implicitDefEqProofs := false)))
    refine AW.cond rfl (fun h => ?_) (fun h => ?_)
    · simp at h
    refine AW.exit ?_
    (try (simp (implicitDefEqProofs := false); try simp (disch := omega) only [w64, wu64]))
    repeat (first | refine AW.seq ?_ | refine AW.block ?_ | (refine AW.reg mix ?_; simp (implicitDefEqProofs := false); try simp (disch := omega) only [w64, wu64]) | (refine need.of (by first | omega | kernel_rfl) ?_) | (refine AW.fin ?_; try simp (implicitDefEqProofs := false)))

theorem rwrong2_ok {k a b y t z u : Nat} {f g : Bool} (h : GoodR k a b) (hw : WellR k a b y t f) (hv : WellR k a b z u g) : Eqn Tryz.prog n_reg_Param_wrong [.d (parD k a b), .d (.sl 2 [.int .i64 y, .int .i64 t, .bool f, .int .i64 z, .int .i64 u, .bool g])] [] (.d (.int .i64 0)) [] := by
  refine Eqn.pure r_reg_Param_wrong Plain.ok ?_
  have hc := rcheck_ok h
  have hw1 := rwell_ok h y t f
  have hw2 := rwell_ok h z u g
  rw [wellRB_iff.2 hw] at hw1
  rw [wellRB_iff.2 hv] at hw2
  simp only [c_reg_Param_wrong, parD, tsD] at hc hw1 hw2 ⊢
  repeat (first | refine AW.seq ?_ | refine AW.block ?_ | (refine AW.reg mix ?_; simp (implicitDefEqProofs := false); try simp (disch := omega) only [w64, wu64]) | (refine need.of (by first | omega | kernel_rfl) ?_) | (refine AW.fin ?_; try simp (implicitDefEqProofs := false)))
  refine CallS.pu (hc) ?_
  (try (simp (implicitDefEqProofs := false); try simp (disch := omega) only [w64, wu64]))
  repeat (first | refine AW.seq ?_ | refine AW.block ?_ | (refine AW.reg mix ?_; simp (implicitDefEqProofs := false); try simp (disch := omega) only [w64, wu64]) | (refine need.of (by first | omega | kernel_rfl) ?_) | (refine AW.fin ?_; try simp (implicitDefEqProofs := false)))
  refine AW.cond rfl (fun h => ?_) (fun h => ?_)
  · simp at h
  repeat (first | refine AW.seq ?_ | refine AW.block ?_ | (refine AW.reg mix ?_; simp (implicitDefEqProofs := false); try simp (disch := omega) only [w64, wu64]) | (refine need.of (by first | omega | kernel_rfl) ?_) | (refine AW.fin ?_; try simp (implicitDefEqProofs := false)))
  refine AW.loopT (α := Nat) 1 (fun i => [(15, .d (.int .i64 (i : Int)))]) (fun i => []) (fun i => i ≤ 2) (fun i => 2 - i) 0 ?_ ?_ (Nat.zero_le _) ?_ ?_ ?_
  · simp
  · simp
  · simp
  · simp
  rintro i hi
  simp
  have hi' : i = 0 ∨ i = 1 ∨ i = 2 := by omega
  rcases hi' with rfl | rfl | rfl
  · repeat (first | refine AW.seq ?_ | refine AW.block ?_ | (refine AW.reg mix ?_; simp (implicitDefEqProofs := false); try simp (disch := omega) only [w64, wu64]) | (refine need.of (by first | omega | kernel_rfl) ?_) | (refine AW.fin ?_; try simp (implicitDefEqProofs := false)))
    refine AW.cond rfl (fun h => ?_) (fun h => ?_)
    · repeat (first | refine AW.seq ?_ | refine AW.block ?_ | (refine AW.reg mix ?_; simp (implicitDefEqProofs := false); try simp (disch := omega) only [w64, wu64]) | (refine need.of (by first | omega | kernel_rfl) ?_) | (refine AW.fin ?_; try simp (implicitDefEqProofs := false)))
      refine CallS.pu (hw1) ?_
      (try (simp (implicitDefEqProofs := false); try simp (disch := omega) only [w64, wu64]))
      repeat (first | refine AW.seq ?_ | refine AW.block ?_ | (refine AW.reg mix ?_; simp (implicitDefEqProofs := false); try simp (disch := omega) only [w64, wu64]) | (refine need.of (by first | omega | kernel_rfl) ?_) | (refine AW.fin ?_; try simp (implicitDefEqProofs := false)))
      refine AW.cond rfl (fun h => ?_) (fun h => ?_)
      · simp at h
      have ew : IntKind.i64.wrap 1 = 1 := w64 (by omega) (by omega)
      repeat (first | refine AW.seq ?_ | refine AW.block ?_ | (refine AW.reg mix ?_; simp (implicitDefEqProofs := false) [ew]; try simp (disch := omega) only [w64, wu64]) | (refine need.of (by first | omega | kernel_rfl) ?_) | (refine AW.fin ?_; try simp (implicitDefEqProofs := false) [ew]))
      exact ⟨1, by omega, by omega, by simp⟩
    · simp at h
  · repeat (first | refine AW.seq ?_ | refine AW.block ?_ | (refine AW.reg mix ?_; simp (implicitDefEqProofs := false); try simp (disch := omega) only [w64, wu64]) | (refine need.of (by first | omega | kernel_rfl) ?_) | (refine AW.fin ?_; try simp (implicitDefEqProofs := false)))
    refine AW.cond rfl (fun h => ?_) (fun h => ?_)
    · repeat (first | refine AW.seq ?_ | refine AW.block ?_ | (refine AW.reg mix ?_; simp (implicitDefEqProofs := false); try simp (disch := omega) only [w64, wu64]) | (refine need.of (by first | omega | kernel_rfl) ?_) | (refine AW.fin ?_; try simp (implicitDefEqProofs := false)))
      refine CallS.pu (hw2) ?_
      (try (simp (implicitDefEqProofs := false); try simp (disch := omega) only [w64, wu64]))
      repeat (first | refine AW.seq ?_ | refine AW.block ?_ | (refine AW.reg mix ?_; simp (implicitDefEqProofs := false); try simp (disch := omega) only [w64, wu64]) | (refine need.of (by first | omega | kernel_rfl) ?_) | (refine AW.fin ?_; try simp (implicitDefEqProofs := false)))
      refine AW.cond rfl (fun h => ?_) (fun h => ?_)
      · simp at h
      have ew : IntKind.i64.wrap 2 = 2 := w64 (by omega) (by omega)
      repeat (first | refine AW.seq ?_ | refine AW.block ?_ | (refine AW.reg mix ?_; simp (implicitDefEqProofs := false) [ew]; try simp (disch := omega) only [w64, wu64]) | (refine need.of (by first | omega | kernel_rfl) ?_) | (refine AW.fin ?_; try simp (implicitDefEqProofs := false) [ew]))
      exact ⟨2, by omega, by omega, by simp⟩
    · simp at h
  · repeat (first | refine AW.seq ?_ | refine AW.block ?_ | (refine AW.reg mix ?_; simp (implicitDefEqProofs := false); try simp (disch := omega) only [w64, wu64]) | (refine need.of (by first | omega | kernel_rfl) ?_) | (refine AW.fin ?_; try simp (implicitDefEqProofs := false)))
    refine AW.cond rfl (fun h => ?_) (fun h => ?_)
    · simp at h
    refine AW.exit ?_
    (try (simp (implicitDefEqProofs := false); try simp (disch := omega) only [w64, wu64]))
    repeat (first | refine AW.seq ?_ | refine AW.block ?_ | (refine AW.reg mix ?_; simp (implicitDefEqProofs := false); try simp (disch := omega) only [w64, wu64]) | (refine need.of (by first | omega | kernel_rfl) ?_) | (refine AW.fin ?_; try simp (implicitDefEqProofs := false)))
end
end Go.Proofs.YtakjegcjeffmgaaGreat.Am
namespace Go.Proofs.YtakjegcjeffmgaaGreat.Am
section
open Go.RowKit
set_option maxRecDepth 100000
set_option linter.unusedSimpArgs false
set_option linter.unusedVariables false

/-- what is handed back: with an error it is what it was -/
def stR (R : TR) (y t : Nat) (f : Bool) : D := if R.e = 0 then tsD R.y R.t R.f else tsD y t f

theorem radd_ok (cs : List Bool) (k a b y t : Nat) (f : Bool) (n : Nat) (p : Nat) (d : Bool) (h : GoodR k a b) (hw : WellR k a b y t f) (hn : n ≤ 1048576) (hp : p ≤ cs.length) (hc : cs.length ≤ 4000000) (R : TR) (hR : R = addRM cs k a b n y t f p d) :
    Eqn Tryz.prog n_reg_Param_Add [.d (parD k a b), .p 0 0, .d (tsD y t f), .d (.int .i64 n)] [tapeO cs p d] (.tup [.d (stR R y t f), .d (.int .i64 R.e)]) [tapeO cs R.p R.d] := by
  refine Eqn.obj1 r_reg_Param_Add Plain.ok ⟨rfl, fun _ => rfl⟩ ?_
  have hwr := rwrong1_ok h hw
  rcases hw with ⟨rfl, hw⟩ | ⟨hk, rfl, hy, hf⟩
  · replace h : GoodT a b := by
      rcases h with ⟨-, h⟩ | ⟨hk, -⟩
      · exact h
      · exact absurd rfl hk
    rw [addRM, if_pos rfl] at hR
    have h1 := rthin_ok 4 a b
    have h2 := rthinned_ok y t f
    have h3 := tadd_ok cs a b y t f n p d h hw (by omega) hp hc R (by rw [hR]; congr 1)
    clear hR
    obtain ⟨e, ry, rt, rf, rp, rd⟩ := R
    have h4 : ∀ y t f, _ := runthinned_ok
    simp only [c_reg_Param_Add, parD, tpD, tsD, stR, show ((4 : Nat) : Int) = 4 from rfl] at hwr h1 h2 h3 ⊢
    obtain ⟨Y, T, F, hS⟩ : ∃ (Y T : Nat) (F : Bool), (if e = 0 then D.agg [.int .i64 ry, .int .i64 rt, .bool rf] else D.agg [.int .i64 y, .int .i64 t, .bool f]) = D.agg [.int .i64 Y, .int .i64 T, .bool F] := by
      split
      · exact ⟨ry, rt, rf, rfl⟩
      · exact ⟨y, t, f, rfl⟩
    rw [hS] at h3 ⊢
    repeat (first | refine AW.seq ?_ | refine AW.block ?_ | (refine AW.reg mix ?_; simp (implicitDefEqProofs := false) [-Bool.exists_bool]; try simp (disch := omega) only [w64, wu64]) | (refine need.of (by first | omega | kernel_rfl) ?_) | (refine AW.fin ?_; try simp (implicitDefEqProofs := false) [-Bool.exists_bool]))
    refine CallS.pf 4 3 ⟨52, _⟩ [.int .i64 y, .int .i64 t, .bool f] (hwr) (by first | rfl | (simp [-Bool.exists_bool]; done)) ?_
    (try (simp (implicitDefEqProofs := false) [-Bool.exists_bool]; try simp (disch := omega) only [w64, wu64]))
    repeat (first | refine AW.seq ?_ | refine AW.block ?_ | (refine AW.reg mix ?_; simp (implicitDefEqProofs := false) [-Bool.exists_bool]; try simp (disch := omega) only [w64, wu64]) | (refine need.of (by first | omega | kernel_rfl) ?_) | (refine AW.fin ?_; try simp (implicitDefEqProofs := false) [-Bool.exists_bool]))
    refine AW.cond rfl (fun h => ?_) (fun h => ?_)
    · simp at h
    repeat (first | refine AW.seq ?_ | refine AW.block ?_ | (refine AW.reg mix ?_; simp (implicitDefEqProofs := false) [-Bool.exists_bool]; try simp (disch := omega) only [w64, wu64]) | (refine need.of (by first | omega | kernel_rfl) ?_) | (refine AW.fin ?_; try simp (implicitDefEqProofs := false) [-Bool.exists_bool]))
    refine AW.cond rfl (fun h => ?_) (fun h => ?_)
    · repeat (first | refine AW.seq ?_ | refine AW.block ?_ | (refine AW.reg mix ?_; simp (implicitDefEqProofs := false) [-Bool.exists_bool]; try simp (disch := omega) only [w64, wu64]) | (refine need.of (by first | omega | kernel_rfl) ?_) | (refine AW.fin ?_; try simp (implicitDefEqProofs := false) [-Bool.exists_bool]))
      refine CallS.pu (h1) ?_
      (try (simp (implicitDefEqProofs := false) [-Bool.exists_bool]; try simp (disch := omega) only [w64, wu64]))
      repeat (first | refine AW.seq ?_ | refine AW.block ?_ | (refine AW.reg mix ?_; simp (implicitDefEqProofs := false) [-Bool.exists_bool]; try simp (disch := omega) only [w64, wu64]) | (refine need.of (by first | omega | kernel_rfl) ?_) | (refine AW.fin ?_; try simp (implicitDefEqProofs := false) [-Bool.exists_bool]))
      refine CallS.pu (h2) ?_
      (try (simp (implicitDefEqProofs := false) [-Bool.exists_bool]; try simp (disch := omega) only [w64, wu64]))
      repeat (first | refine AW.seq ?_ | refine AW.block ?_ | (refine AW.reg mix ?_; simp (implicitDefEqProofs := false) [-Bool.exists_bool]; try simp (disch := omega) only [w64, wu64]) | (refine need.of (by first | omega | kernel_rfl) ?_) | (refine AW.fin ?_; try simp (implicitDefEqProofs := false) [-Bool.exists_bool]))
      refine CallS.o1 0 (h3) ?_
      (try (simp (implicitDefEqProofs := false) [-Bool.exists_bool]; try simp (disch := omega) only [w64, wu64]))
      repeat (first | refine AW.seq ?_ | refine AW.block ?_ | (refine AW.reg mix ?_; simp (implicitDefEqProofs := false) [-Bool.exists_bool]; try simp (disch := omega) only [w64, wu64]) | (refine need.of (by first | omega | kernel_rfl) ?_) | (refine AW.fin ?_; try simp (implicitDefEqProofs := false) [-Bool.exists_bool]))
      refine CallS.pu (h4 Y T F) ?_
      (try (simp (implicitDefEqProofs := false) [-Bool.exists_bool]; try simp (disch := omega) only [w64, wu64]))
      repeat (first | refine AW.seq ?_ | refine AW.block ?_ | (refine AW.reg mix ?_; simp (implicitDefEqProofs := false) [-Bool.exists_bool]; try simp (disch := omega) only [w64, wu64]) | (refine need.of (by first | omega | kernel_rfl) ?_) | (refine AW.fin ?_; try simp (implicitDefEqProofs := false) [-Bool.exists_bool]))
    · simp at h
  · rcases h with ⟨rfl, -⟩ | ⟨-, h⟩
    · exact absurd rfl hk
    rw [addRM, if_neg hk] at hR
    have h1 := rchain_ok k a b
    have h2 := rlink_ok y 0 f
    have h3 := addC_ok h cs hc y hy f n hn p d hp _ rfl
    have hk' : ¬ (k : Int) = 4 := by omega
    generalize addL (stOf cs k a) (2 ^ b - 1) n y f p d = S at *
    subst hR
    obtain ⟨e, sx, sf, sp, sd⟩ := S
    have h4 : ∀ y f, _ := rlinked_ok
    simp only [c_reg_Param_Add, parD, tsD, stR] at hwr h1 h2 h3 ⊢
    obtain ⟨Y, F, hS1, hS2, hS⟩ : ∃ (Y : Nat) (F : Bool), (if e = 0 then sx else y) = Y ∧ (if e = 0 then sf else f) = F ∧ (if e = 0 then D.agg [.int .i64 sx, .int .i64 (0 : Nat), .bool sf] else D.agg [.int .i64 y, .int .i64 (0 : Nat), .bool f]) = D.agg [.int .i64 Y, .int .i64 0, .bool F] := by
      by_cases he : e = 0
      · simp only [if_pos he]; exact ⟨sx, sf, rfl, rfl, rfl⟩
      · simp only [if_neg he]; exact ⟨y, f, rfl, rfl, rfl⟩
    rw [hS1, hS2] at h3
    rw [hS]
    simp only [Int.natCast_zero, show ((0 : Nat) : Int) = 0 by rfl] at hwr
    repeat (first | refine AW.seq ?_ | refine AW.block ?_ | (refine AW.reg mix ?_; simp (implicitDefEqProofs := false) [-Bool.exists_bool]; try simp (disch := omega) only [w64, wu64]) | (refine need.of (by first | omega | kernel_rfl) ?_) | (refine AW.fin ?_; try simp (implicitDefEqProofs := false) [-Bool.exists_bool]))
    refine CallS.pf 4 3 ⟨52, _⟩ [.int .i64 y, .int .i64 0, .bool f] (hwr) (by first | rfl | (simp [-Bool.exists_bool]; done)) ?_
    (try (simp (implicitDefEqProofs := false) [-Bool.exists_bool]; try simp (disch := omega) only [w64, wu64]))
    repeat (first | refine AW.seq ?_ | refine AW.block ?_ | (refine AW.reg mix ?_; simp (implicitDefEqProofs := false) [-Bool.exists_bool]; try simp (disch := omega) only [w64, wu64]) | (refine need.of (by first | omega | kernel_rfl) ?_) | (refine AW.fin ?_; try simp (implicitDefEqProofs := false) [-Bool.exists_bool]))
    refine AW.cond rfl (fun h => ?_) (fun h => ?_)
    · simp at h
    repeat (first | refine AW.seq ?_ | refine AW.block ?_ | (refine AW.reg mix ?_; simp (implicitDefEqProofs := false) [hk, hk', -Bool.exists_bool]; try simp (disch := omega) only [w64, wu64]) | (refine need.of (by first | omega | kernel_rfl) ?_) | (refine AW.fin ?_; try simp (implicitDefEqProofs := false) [hk, hk', -Bool.exists_bool]))
    refine AW.cond rfl (fun h => ?_) (fun h => ?_)
    · simp [hk'] at h
    · repeat (first | refine AW.seq ?_ | refine AW.block ?_ | (refine AW.reg mix ?_; simp (implicitDefEqProofs := false) [-Bool.exists_bool]; try simp (disch := omega) only [w64, wu64]) | (refine need.of (by first | omega | kernel_rfl) ?_) | (refine AW.fin ?_; try simp (implicitDefEqProofs := false) [-Bool.exists_bool]))
      refine CallS.pu (h1) ?_
      (try (simp (implicitDefEqProofs := false) [-Bool.exists_bool]; try simp (disch := omega) only [w64, wu64]))
      repeat (first | refine AW.seq ?_ | refine AW.block ?_ | (refine AW.reg mix ?_; simp (implicitDefEqProofs := false) [-Bool.exists_bool]; try simp (disch := omega) only [w64, wu64]) | (refine need.of (by first | omega | kernel_rfl) ?_) | (refine AW.fin ?_; try simp (implicitDefEqProofs := false) [-Bool.exists_bool]))
      refine CallS.pu (h2) ?_
      (try (simp (implicitDefEqProofs := false) [-Bool.exists_bool]; try simp (disch := omega) only [w64, wu64]))
      repeat (first | refine AW.seq ?_ | refine AW.block ?_ | (refine AW.reg mix ?_; simp (implicitDefEqProofs := false) [-Bool.exists_bool]; try simp (disch := omega) only [w64, wu64]) | (refine need.of (by first | omega | kernel_rfl) ?_) | (refine AW.fin ?_; try simp (implicitDefEqProofs := false) [-Bool.exists_bool]))
      refine CallS.o1 0 (h3) ?_
      (try (simp (implicitDefEqProofs := false) [-Bool.exists_bool]; try simp (disch := omega) only [w64, wu64]))
      repeat (first | refine AW.seq ?_ | refine AW.block ?_ | (refine AW.reg mix ?_; simp (implicitDefEqProofs := false) [-Bool.exists_bool]; try simp (disch := omega) only [w64, wu64]) | (refine need.of (by first | omega | kernel_rfl) ?_) | (refine AW.fin ?_; try simp (implicitDefEqProofs := false) [-Bool.exists_bool]))
      refine CallS.pu (h4 Y F) ?_
      (try (simp (implicitDefEqProofs := false) [-Bool.exists_bool]; try simp (disch := omega) only [w64, wu64]))
      repeat (first | refine AW.seq ?_ | refine AW.block ?_ | (refine AW.reg mix ?_; simp (implicitDefEqProofs := false) [-Bool.exists_bool]; try simp (disch := omega) only [w64, wu64]) | (refine need.of (by first | omega | kernel_rfl) ?_) | (refine AW.fin ?_; try simp (implicitDefEqProofs := false) [-Bool.exists_bool]))

theorem rmerge_ok (cs : List Bool) (k a b y t : Nat) (f : Bool) (z u : Nat) (g : Bool) (p : Nat) (d : Bool) (h : GoodR k a b) (hw : WellR k a b y t f) (hv : WellR k a b z u g) (hp : p ≤ cs.length) (hc : cs.length ≤ 4000000) (R : TR) (hR : R = mergeRM cs k a b y t f z u g p d) :
    Eqn Tryz.prog n_reg_Param_Merge [.d (parD k a b), .p 0 0, .d (tsD y t f), .d (tsD z u g)] [tapeO cs p d] (.tup [.d (stR R y t f), .d (.int .i64 R.e)]) [tapeO cs R.p R.d] := by
  refine Eqn.obj1 r_reg_Param_Merge Plain.ok ⟨rfl, fun _ => rfl⟩ ?_
  have hwr := rwrong2_ok h hw hv
  rcases hw with ⟨rfl, hw⟩ | ⟨hk, rfl, hy, hf⟩
  · replace h : GoodT a b := by
      rcases h with ⟨-, h⟩ | ⟨hk, -⟩
      · exact h
      · exact absurd rfl hk
    replace hv : WellT a b z u g := by
      rcases hv with ⟨-, h⟩ | ⟨hk, -⟩
      · exact h
      · exact absurd rfl hk
    rw [mergeRM, if_pos rfl] at hR
    have h1 := rthin_ok 4 a b
    have h2 := rthinned_ok y t f
    have h2' := rthinned_ok z u g
    have h3 := tmerge_ok cs a b y t f z u g p d h hw hv hp hc R hR
    clear hR
    obtain ⟨e, ry, rt, rf, rp, rd⟩ := R
    have h4 : ∀ y t f, _ := runthinned_ok
    simp only [c_reg_Param_Merge, parD, tpD, tsD, stR, show ((4 : Nat) : Int) = 4 from rfl] at hwr h1 h2 h2' h3 ⊢
    obtain ⟨Y, T, F, hS⟩ : ∃ (Y T : Nat) (F : Bool), (if e = 0 then D.agg [.int .i64 ry, .int .i64 rt, .bool rf] else D.agg [.int .i64 y, .int .i64 t, .bool f]) = D.agg [.int .i64 Y, .int .i64 T, .bool F] := by
      split
      · exact ⟨ry, rt, rf, rfl⟩
      · exact ⟨y, t, f, rfl⟩
    rw [hS] at h3 ⊢
    repeat (first | refine AW.seq ?_ | refine AW.block ?_ | (refine AW.reg mix ?_; simp (implicitDefEqProofs := false) [-Bool.exists_bool]; try simp (disch := omega) only [w64, wu64]) | (refine need.of (by first | omega | kernel_rfl) ?_) | (refine AW.fin ?_; try simp (implicitDefEqProofs := false) [-Bool.exists_bool]))
    refine CallS.pf 5 3 ⟨52, _⟩ [.int .i64 y, .int .i64 t, .bool f, .int .i64 z, .int .i64 u, .bool g] (hwr) (by first | rfl | (simp [-Bool.exists_bool]; done)) ?_
    (try (simp (implicitDefEqProofs := false) [-Bool.exists_bool]; try simp (disch := omega) only [w64, wu64]))
    repeat (first | refine AW.seq ?_ | refine AW.block ?_ | (refine AW.reg mix ?_; simp (implicitDefEqProofs := false) [-Bool.exists_bool]; try simp (disch := omega) only [w64, wu64]) | (refine need.of (by first | omega | kernel_rfl) ?_) | (refine AW.fin ?_; try simp (implicitDefEqProofs := false) [-Bool.exists_bool]))
    refine AW.cond rfl (fun h => ?_) (fun h => ?_)
    · simp at h
    repeat (first | refine AW.seq ?_ | refine AW.block ?_ | (refine AW.reg mix ?_; simp (implicitDefEqProofs := false) [-Bool.exists_bool]; try simp (disch := omega) only [w64, wu64]) | (refine need.of (by first | omega | kernel_rfl) ?_) | (refine AW.fin ?_; try simp (implicitDefEqProofs := false) [-Bool.exists_bool]))
    refine AW.cond rfl (fun h => ?_) (fun h => ?_)
    · repeat (first | refine AW.seq ?_ | refine AW.block ?_ | (refine AW.reg mix ?_; simp (implicitDefEqProofs := false) [-Bool.exists_bool]; try simp (disch := omega) only [w64, wu64]) | (refine need.of (by first | omega | kernel_rfl) ?_) | (refine AW.fin ?_; try simp (implicitDefEqProofs := false) [-Bool.exists_bool]))
      refine CallS.pu (h1) ?_
      (try (simp (implicitDefEqProofs := false) [-Bool.exists_bool]; try simp (disch := omega) only [w64, wu64]))
      repeat (first | refine AW.seq ?_ | refine AW.block ?_ | (refine AW.reg mix ?_; simp (implicitDefEqProofs := false) [-Bool.exists_bool]; try simp (disch := omega) only [w64, wu64]) | (refine need.of (by first | omega | kernel_rfl) ?_) | (refine AW.fin ?_; try simp (implicitDefEqProofs := false) [-Bool.exists_bool]))
      refine CallS.pu (h2) ?_
      (try (simp (implicitDefEqProofs := false) [-Bool.exists_bool]; try simp (disch := omega) only [w64, wu64]))
      repeat (first | refine AW.seq ?_ | refine AW.block ?_ | (refine AW.reg mix ?_; simp (implicitDefEqProofs := false) [-Bool.exists_bool]; try simp (disch := omega) only [w64, wu64]) | (refine need.of (by first | omega | kernel_rfl) ?_) | (refine AW.fin ?_; try simp (implicitDefEqProofs := false) [-Bool.exists_bool]))
      refine CallS.pu (h2') ?_
      (try (simp (implicitDefEqProofs := false) [-Bool.exists_bool]; try simp (disch := omega) only [w64, wu64]))
      repeat (first | refine AW.seq ?_ | refine AW.block ?_ | (refine AW.reg mix ?_; simp (implicitDefEqProofs := false) [-Bool.exists_bool]; try simp (disch := omega) only [w64, wu64]) | (refine need.of (by first | omega | kernel_rfl) ?_) | (refine AW.fin ?_; try simp (implicitDefEqProofs := false) [-Bool.exists_bool]))
      refine CallS.o1 0 (h3) ?_
      (try (simp (implicitDefEqProofs := false) [-Bool.exists_bool]; try simp (disch := omega) only [w64, wu64]))
      repeat (first | refine AW.seq ?_ | refine AW.block ?_ | (refine AW.reg mix ?_; simp (implicitDefEqProofs := false) [-Bool.exists_bool]; try simp (disch := omega) only [w64, wu64]) | (refine need.of (by first | omega | kernel_rfl) ?_) | (refine AW.fin ?_; try simp (implicitDefEqProofs := false) [-Bool.exists_bool]))
      refine CallS.pu (h4 Y T F) ?_
      (try (simp (implicitDefEqProofs := false) [-Bool.exists_bool]; try simp (disch := omega) only [w64, wu64]))
      repeat (first | refine AW.seq ?_ | refine AW.block ?_ | (refine AW.reg mix ?_; simp (implicitDefEqProofs := false) [-Bool.exists_bool]; try simp (disch := omega) only [w64, wu64]) | (refine need.of (by first | omega | kernel_rfl) ?_) | (refine AW.fin ?_; try simp (implicitDefEqProofs := false) [-Bool.exists_bool]))
    · simp at h
  · rcases h with ⟨rfl, -⟩ | ⟨-, h⟩
    · exact absurd rfl hk
    rcases hv with ⟨rfl, -⟩ | ⟨-, rfl, hz, hg⟩
    · exact absurd rfl hk
    rw [mergeRM, if_neg hk] at hR
    have h1 := rchain_ok k a b
    have h2 := rlink_ok y 0 f
    have h2' := rlink_ok z 0 g
    have h3 := mergeC_ok h cs hc y hy f z hz g p d hp _ rfl
    have hk' : ¬ (k : Int) = 4 := by omega
    generalize mergeL (agOf cs k a) (2 ^ b - 1) z 0 y f p d = S at *
    subst hR
    obtain ⟨e, sx, sf, sp, sd⟩ := S
    have h4 : ∀ y f, _ := rlinked_ok
    simp only [c_reg_Param_Merge, parD, tsD, stR] at hwr h1 h2 h2' h3 ⊢
    obtain ⟨Y, F, hS1, hS2, hS⟩ : ∃ (Y : Nat) (F : Bool), (if e = 0 then sx else y) = Y ∧ (if e = 0 then sf || g else f) = F ∧ (if e = 0 then D.agg [.int .i64 sx, .int .i64 (0 : Nat), .bool (sf || g)] else D.agg [.int .i64 y, .int .i64 (0 : Nat), .bool f]) = D.agg [.int .i64 Y, .int .i64 0, .bool F] := by
      by_cases he : e = 0
      · simp only [if_pos he]; exact ⟨sx, _, rfl, rfl, rfl⟩
      · simp only [if_neg he]; exact ⟨y, f, rfl, rfl, rfl⟩
    rw [hS1, hS2] at h3
    rw [hS]
    simp only [Int.natCast_zero, show ((0 : Nat) : Int) = 0 by rfl] at hwr
    repeat (first | refine AW.seq ?_ | refine AW.block ?_ | (refine AW.reg mix ?_; simp (implicitDefEqProofs := false) [-Bool.exists_bool]; try simp (disch := omega) only [w64, wu64]) | (refine need.of (by first | omega | kernel_rfl) ?_) | (refine AW.fin ?_; try simp (implicitDefEqProofs := false) [-Bool.exists_bool]))
    refine CallS.pf 5 3 ⟨52, _⟩ [.int .i64 y, .int .i64 0, .bool f, .int .i64 z, .int .i64 0, .bool g] (hwr) (by first | rfl | (simp [-Bool.exists_bool]; done)) ?_
    (try (simp (implicitDefEqProofs := false) [-Bool.exists_bool]; try simp (disch := omega) only [w64, wu64]))
    repeat (first | refine AW.seq ?_ | refine AW.block ?_ | (refine AW.reg mix ?_; simp (implicitDefEqProofs := false) [-Bool.exists_bool]; try simp (disch := omega) only [w64, wu64]) | (refine need.of (by first | omega | kernel_rfl) ?_) | (refine AW.fin ?_; try simp (implicitDefEqProofs := false) [-Bool.exists_bool]))
    refine AW.cond rfl (fun h => ?_) (fun h => ?_)
    · simp at h
    repeat (first | refine AW.seq ?_ | refine AW.block ?_ | (refine AW.reg mix ?_; simp (implicitDefEqProofs := false) [hk, hk', -Bool.exists_bool]; try simp (disch := omega) only [w64, wu64]) | (refine need.of (by first | omega | kernel_rfl) ?_) | (refine AW.fin ?_; try simp (implicitDefEqProofs := false) [hk, hk', -Bool.exists_bool]))
    refine AW.cond rfl (fun h => ?_) (fun h => ?_)
    · simp [hk'] at h
    · repeat (first | refine AW.seq ?_ | refine AW.block ?_ | (refine AW.reg mix ?_; simp (implicitDefEqProofs := false) [-Bool.exists_bool]; try simp (disch := omega) only [w64, wu64]) | (refine need.of (by first | omega | kernel_rfl) ?_) | (refine AW.fin ?_; try simp (implicitDefEqProofs := false) [-Bool.exists_bool]))
      refine CallS.pu (h1) ?_
      (try (simp (implicitDefEqProofs := false) [-Bool.exists_bool]; try simp (disch := omega) only [w64, wu64]))
      repeat (first | refine AW.seq ?_ | refine AW.block ?_ | (refine AW.reg mix ?_; simp (implicitDefEqProofs := false) [-Bool.exists_bool]; try simp (disch := omega) only [w64, wu64]) | (refine need.of (by first | omega | kernel_rfl) ?_) | (refine AW.fin ?_; try simp (implicitDefEqProofs := false) [-Bool.exists_bool]))
      refine CallS.pu (h2) ?_
      (try (simp (implicitDefEqProofs := false) [-Bool.exists_bool]; try simp (disch := omega) only [w64, wu64]))
      repeat (first | refine AW.seq ?_ | refine AW.block ?_ | (refine AW.reg mix ?_; simp (implicitDefEqProofs := false) [-Bool.exists_bool]; try simp (disch := omega) only [w64, wu64]) | (refine need.of (by first | omega | kernel_rfl) ?_) | (refine AW.fin ?_; try simp (implicitDefEqProofs := false) [-Bool.exists_bool]))
      refine CallS.pu (h2') ?_
      (try (simp (implicitDefEqProofs := false) [-Bool.exists_bool]; try simp (disch := omega) only [w64, wu64]))
      repeat (first | refine AW.seq ?_ | refine AW.block ?_ | (refine AW.reg mix ?_; simp (implicitDefEqProofs := false) [-Bool.exists_bool]; try simp (disch := omega) only [w64, wu64]) | (refine need.of (by first | omega | kernel_rfl) ?_) | (refine AW.fin ?_; try simp (implicitDefEqProofs := false) [-Bool.exists_bool]))
      refine CallS.o1 0 (h3) ?_
      (try (simp (implicitDefEqProofs := false) [-Bool.exists_bool]; try simp (disch := omega) only [w64, wu64]))
      repeat (first | refine AW.seq ?_ | refine AW.block ?_ | (refine AW.reg mix ?_; simp (implicitDefEqProofs := false) [-Bool.exists_bool]; try simp (disch := omega) only [w64, wu64]) | (refine need.of (by first | omega | kernel_rfl) ?_) | (refine AW.fin ?_; try simp (implicitDefEqProofs := false) [-Bool.exists_bool]))
      refine CallS.pu (h4 Y F) ?_
      (try (simp (implicitDefEqProofs := false) [-Bool.exists_bool]; try simp (disch := omega) only [w64, wu64]))
      repeat (first | refine AW.seq ?_ | refine AW.block ?_ | (refine AW.reg mix ?_; simp (implicitDefEqProofs := false) [-Bool.exists_bool]; try simp (disch := omega) only [w64, wu64]) | (refine need.of (by first | omega | kernel_rfl) ?_) | (refine AW.fin ?_; try simp (implicitDefEqProofs := false) [-Bool.exists_bool]))

theorem rinc_ok (cs : List Bool) (k a b y t : Nat) (f : Bool) (p : Nat) (d : Bool) (h : GoodR k a b) (hw : WellR k a b y t f) (hp : p ≤ cs.length) (hc : cs.length ≤ 4000000) (R : TR) (hR : R = addRM cs k a b 1 y t f p d) :
    Eqn Tryz.prog n_reg_Param_Inc [.d (parD k a b), .p 0 0, .d (tsD y t f)] [tapeO cs p d] (.tup [.d (stR R y t f), .d (.int .i64 R.e)]) [tapeO cs R.p R.d] := by
  refine Eqn.obj1 r_reg_Param_Inc Plain.ok ⟨rfl, fun _ => rfl⟩ ?_
  have h3 := radd_ok cs k a b y t f 1 p d h hw (by omega) hp hc R hR
  obtain ⟨Y, T, F, hS⟩ : ∃ (Y T : Nat) (F : Bool), stR R y t f = D.agg [.int .i64 Y, .int .i64 T, .bool F] := by
    unfold stR
    split
    · exact ⟨R.y, R.t, R.f, rfl⟩
    · exact ⟨y, t, f, rfl⟩
  rw [hS] at h3 ⊢
  simp only [c_reg_Param_Inc, parD, tsD] at h3 ⊢
  repeat (first | refine AW.seq ?_ | refine AW.block ?_ | (refine AW.reg mix ?_; simp (implicitDefEqProofs := false) [-Bool.exists_bool]; try simp (disch := omega) only [w64, wu64]) | (refine need.of (by first | omega | kernel_rfl) ?_) | (refine AW.fin ?_; try simp (implicitDefEqProofs := false) [-Bool.exists_bool]))
  refine CallS.o1 0 (h3) ?_
  (try (simp (implicitDefEqProofs := false) [-Bool.exists_bool]; try simp (disch := omega) only [w64, wu64]))
  repeat (first | refine AW.seq ?_ | refine AW.block ?_ | (refine AW.reg mix ?_; simp (implicitDefEqProofs := false) [-Bool.exists_bool]; try simp (disch := omega) only [w64, wu64]) | (refine need.of (by first | omega | kernel_rfl) ?_) | (refine AW.fin ?_; try simp (implicitDefEqProofs := false) [-Bool.exists_bool]))
end
end Go.Proofs.YtakjegcjeffmgaaGreat.Am
namespace Go.Proofs.YtakjegcjeffmgaaGreat.Am
section
open Go.RowKit
set_option maxRecDepth 100000
set_option linter.unusedSimpArgs false
set_option linter.unusedVariables false

/-- widths of the two numbers -/
def kwR (k a b : Nat) : Nat := if k = 4 then bitsN a else b
def twR (k b : Nat) : Nat := if k = 4 then bitsN b else 0
theorem kwR_pos {k a b : Nat} (h : GoodR k a b) : 0 < kwR k a b ∧ kwR k a b ≤ 10 := by
  unfold kwR
  rcases h with ⟨rfl, h⟩ | ⟨hk, h⟩
  · rw [if_pos rfl]
    refine ⟨?_, bitsN_le (by have := h.2.1; omega)⟩
    unfold bitsN; rw [if_neg (by have := h.1; omega)]; omega
  · rw [if_neg hk]; exact ⟨h.2.1, h.2.2⟩
theorem twR_le {k a b : Nat} (h : GoodR k a b) : twR k b ≤ 5 := by
  unfold twR
  rcases h with ⟨rfl, h⟩ | ⟨hk, h⟩
  · rw [if_pos rfl]; exact bitsN_le (by have := h.2.2; omega)
  · rw [if_neg hk]; omega
theorem well_fits {k a b y t : Nat} {f : Bool} (hg : GoodR k a b) (h : WellR k a b y t f) : y < 2 ^ kwR k a b ∧ t < 2 ^ twR k b := by
  unfold kwR twR
  rcases h with ⟨rfl, h1, h2, -⟩ | ⟨hk, rfl, h1, -⟩
  · rw [if_pos rfl, if_pos rfl]
    exact ⟨Nat.lt_of_le_of_lt h1 (lt_bitsN a), Nat.lt_of_le_of_lt h2 (lt_bitsN b)⟩
  · rw [if_neg hk, if_neg hk]
    have := Nat.two_pow_pos b
    omega

theorem mlen_ok (x : Nat) (hx : x < 18446744073709551616) : Eqn Tryz.prog n_math_bits_Len [.d (.int .u64 x)] [] (.d (.int .i64 (bitsN x))) [] := by
  refine Eqn.pure r_math_bits_Len Plain.ok ?_
  have hl := len64_ok x hx
  simp only [c_math_bits_Len]
  repeat (first | refine AW.seq ?_ | refine AW.block ?_ | (refine AW.reg mix ?_; simp (implicitDefEqProofs := false); try simp (disch := omega) only [w64, wu64]) | (refine need.of (by first | omega | kernel_rfl) ?_) | (refine AW.fin ?_; try simp (implicitDefEqProofs := false)))
  refine AW.cond rfl (fun h => ?_) (fun h => ?_)
  · simp at h
  · repeat (first | refine AW.seq ?_ | refine AW.block ?_ | (refine AW.reg mix ?_; simp (implicitDefEqProofs := false); try simp (disch := omega) only [w64, wu64]) | (refine need.of (by first | omega | kernel_rfl) ?_) | (refine AW.fin ?_; try simp (implicitDefEqProofs := false)))
    refine CallS.pu (hl) ?_
    (try (simp (implicitDefEqProofs := false); try simp (disch := omega) only [w64, wu64]))
    repeat (first | refine AW.seq ?_ | refine AW.block ?_ | (refine AW.reg mix ?_; simp (implicitDefEqProofs := false); try simp (disch := omega) only [w64, wu64]) | (refine need.of (by first | omega | kernel_rfl) ?_) | (refine AW.fin ?_; try simp (implicitDefEqProofs := false)))

theorem widths_ok {k a b : Nat} (h : GoodR k a b) : Eqn Tryz.prog n_reg_Param_widths [.d (parD k a b)] [] (.tup [.d (.int .i64 (kwR k a b)), .d (.int .i64 (twR k b))]) [] := by
  refine Eqn.pure r_reg_Param_widths Plain.ok ?_
  unfold kwR twR
  rcases h with ⟨rfl, h⟩ | ⟨hk, h⟩
  · rw [if_pos rfl, if_pos rfl]
    have h1 := mlen_ok a (by have := h.2.1; omega)
    have h2 := mlen_ok b (by have := h.2.2; omega)
    have e1 : IntKind.u64.wrap (a : Int) = a := wu64 (by omega) (by have := h.2.1; omega)
    have e2 : IntKind.u64.wrap (b : Int) = b := wu64 (by omega) (by have := h.2.2; omega)
    simp only [c_reg_Param_widths, parD]
    repeat (first | refine AW.seq ?_ | refine AW.block ?_ | (refine AW.reg mix ?_; simp (implicitDefEqProofs := false); try simp (disch := omega) only [w64, wu64]) | (refine need.of (by first | omega | kernel_rfl) ?_) | (refine AW.fin ?_; try simp (implicitDefEqProofs := false)))
    refine AW.cond rfl (fun h => ?_) (fun h => ?_)
    · repeat (first | refine AW.seq ?_ | refine AW.block ?_ | (refine AW.reg mix ?_; simp (implicitDefEqProofs := false) [e1, e2]; try simp (disch := omega) only [w64, wu64]) | (refine need.of (by first | omega | kernel_rfl) ?_) | (refine AW.fin ?_; try simp (implicitDefEqProofs := false) [e1, e2]))
      refine CallS.pu (h1) ?_
      (try (simp (implicitDefEqProofs := false) [e1, e2]; try simp (disch := omega) only [w64, wu64]))
      repeat (first | refine AW.seq ?_ | refine AW.block ?_ | (refine AW.reg mix ?_; simp (implicitDefEqProofs := false) [e1, e2]; try simp (disch := omega) only [w64, wu64]) | (refine need.of (by first | omega | kernel_rfl) ?_) | (refine AW.fin ?_; try simp (implicitDefEqProofs := false) [e1, e2]))
      refine CallS.pu (h2) ?_
      (try (simp (implicitDefEqProofs := false); try simp (disch := omega) only [w64, wu64]))
      repeat (first | refine AW.seq ?_ | refine AW.block ?_ | (refine AW.reg mix ?_; simp (implicitDefEqProofs := false); try simp (disch := omega) only [w64, wu64]) | (refine need.of (by first | omega | kernel_rfl) ?_) | (refine AW.fin ?_; try simp (implicitDefEqProofs := false)))
    · simp at h
  · rw [if_neg hk, if_neg hk]
    have hk' : ¬ (k : Int) = 4 := by omega
    simp only [c_reg_Param_widths, parD]
    repeat (first | refine AW.seq ?_ | refine AW.block ?_ | (refine AW.reg mix ?_; simp (implicitDefEqProofs := false) [hk, hk']; try simp (disch := omega) only [w64, wu64]) | (refine need.of (by first | omega | kernel_rfl) ?_) | (refine AW.fin ?_; try simp (implicitDefEqProofs := false) [hk, hk']))
    refine AW.cond rfl (fun h => ?_) (fun h => ?_)
    · simp [hk'] at h
    · repeat (first | refine AW.seq ?_ | refine AW.block ?_ | (refine AW.reg mix ?_; simp (implicitDefEqProofs := false); try simp (disch := omega) only [w64, wu64]) | (refine need.of (by first | omega | kernel_rfl) ?_) | (refine AW.fin ?_; try simp (implicitDefEqProofs := false)))

theorem rbits_ok {k a b : Nat} (h : GoodR k a b) : Eqn Tryz.prog n_reg_Param_Bits [.d (parD k a b)] [] (.d (.int .i64 (kwR k a b + twR k b + 1 : Nat))) [] := by
  refine Eqn.pure r_reg_Param_Bits Plain.ok ?_
  have h1 := rcheck_ok h
  have h2 := widths_ok h
  have b1 := (kwR_pos h).2
  have b2 := twR_le h
  simp only [c_reg_Param_Bits, parD] at h1 h2 ⊢
  generalize kwR k a b = K at *
  generalize twR k b = T at *
  have e1 : IntKind.i64.wrap ((K : Int) + T) = (K : Int) + T := w64 (by omega) (by omega)
  have e2 : IntKind.i64.wrap ((K : Int) + T + 1) = (K : Int) + T + 1 := w64 (by omega) (by omega)
  repeat (first | refine AW.seq ?_ | refine AW.block ?_ | (refine AW.reg mix ?_; simp (implicitDefEqProofs := false); try simp (disch := omega) only [w64, wu64]) | (refine need.of (by first | omega | kernel_rfl) ?_) | (refine AW.fin ?_; try simp (implicitDefEqProofs := false)))
  refine CallS.pu (h1) ?_
  (try (simp (implicitDefEqProofs := false); try simp (disch := omega) only [w64, wu64]))
  repeat (first | refine AW.seq ?_ | refine AW.block ?_ | (refine AW.reg mix ?_; simp (implicitDefEqProofs := false); try simp (disch := omega) only [w64, wu64]) | (refine need.of (by first | omega | kernel_rfl) ?_) | (refine AW.fin ?_; try simp (implicitDefEqProofs := false)))
  refine AW.cond rfl (fun h => ?_) (fun h => ?_)
  · simp at h
  repeat (first | refine AW.seq ?_ | refine AW.block ?_ | (refine AW.reg mix ?_; simp (implicitDefEqProofs := false); try simp (disch := omega) only [w64, wu64]) | (refine need.of (by first | omega | kernel_rfl) ?_) | (refine AW.fin ?_; try simp (implicitDefEqProofs := false)))
  refine CallS.pu (h2) ?_
  (try (simp (implicitDefEqProofs := false) [e1, e2]; try simp (disch := omega) only [w64, wu64]))
  repeat (first | refine AW.seq ?_ | refine AW.block ?_ | (refine AW.reg mix ?_; simp (implicitDefEqProofs := false) [e1, e2]; try simp (disch := omega) only [w64, wu64]) | (refine need.of (by first | omega | kernel_rfl) ?_) | (refine AW.fin ?_; try simp (implicitDefEqProofs := false) [e1, e2]))

/-- a register's bits -/
def encR (k a b y t : Nat) (f : Bool) : List Bool := bitsW y (kwR k a b) ++ bitsW t (twR k b) ++ [f]
theorem encR_len (k a b y t : Nat) (f : Bool) : (encR k a b y t f).length = kwR k a b + twR k b + 1 := by simp [encR]; omega

theorem rwrite0_ok {k a b y t : Nat} {f : Bool} (h : GoodR k a b) (hw : WellR k a b y t f) : Eqn Tryz.prog n_reg_Param_Write [.d (parD k a b), .p 0 0, .d (tsD y t f)] [⟨94, [.d .nilsl, .d (.int .i64 0)]⟩] (.d (.int .i64 0)) [wrO 1 (encR k a b y t f), wrB (encR k a b y t f)] := by
  refine Eqn.gen [0, 6] r_reg_Param_Write (by simp) (by simp) (by rfl) (by decide) (by simp) (by simp [wrO, wrB]) ?_
  have hwr := rwrong1_ok h hw
  have h2 := widths_ok h
  have hkp := kwR_pos h
  have htl := twR_le h
  have hfit := well_fits h hw
  have h2k : 2 ^ kwR k a b ≤ 2 ^ 10 := Nat.pow_le_pow_right (by omega) hkp.2
  have h2t : 2 ^ twR k b ≤ 2 ^ 5 := Nat.pow_le_pow_right (by omega) htl
  have h3 := wnum0_ok y (kwR k a b) hkp.1 (by omega) hfit.1 (by omega)
  have hne : bitsW y (kwR k a b) ≠ [] := fun he => by have := bitsW_len y (kwR k a b); rw [he] at this; simp at this; omega
  have h4 := wnum_ok (bitsW y (kwR k a b)) t (twR k b) hne (by rw [bitsW_len]; omega) (by omega) hfit.2 (by omega)
  have h5 := wbit_ok (bitsW y (kwR k a b) ++ bitsW t (twR k b)) f (fun he => hne (List.append_eq_nil_iff.1 he).1) (by rw [List.length_append, bitsW_len, bitsW_len]; omega)
  have e1 : IntKind.u64.wrap (y : Int) = y := wu64 (by omega) (by omega)
  have e2 : IntKind.u64.wrap (t : Int) = t := wu64 (by omega) (by omega)
  simp only [c_reg_Param_Write, parD, tsD, encR] at hwr h2 ⊢
  generalize bitsW y (kwR k a b) = X1 at *
  generalize X1 ++ bitsW t (twR k b) = X2 at *
  generalize hX3 : X2 ++ [f] = X3 at *
  generalize kwR k a b = K at *
  generalize twR k b = T at *
  simp only [wrO, wrB] at h3 h4 h5 ⊢
  repeat (first | refine AW.seq ?_ | refine AW.block ?_ | (refine AW.reg mix ?_; simp (implicitDefEqProofs := false); try simp (disch := omega) only [w64, wu64]) | (refine need.of (by first | omega | kernel_rfl) ?_) | (refine AW.fin ?_; try simp (implicitDefEqProofs := false)))
  refine CallS.pf 3 3 ⟨52, _⟩ [.int .i64 y, .int .i64 t, .bool f] (hwr) (by first | rfl | (simp; done)) ?_
  (try (simp (implicitDefEqProofs := false); try simp (disch := omega) only [w64, wu64]))
  repeat (first | refine AW.seq ?_ | refine AW.block ?_ | (refine AW.reg mix ?_; simp (implicitDefEqProofs := false); try simp (disch := omega) only [w64, wu64]) | (refine need.of (by first | omega | kernel_rfl) ?_) | (refine AW.fin ?_; try simp (implicitDefEqProofs := false)))
  refine AW.cond rfl (fun h => ?_) (fun h => ?_)
  · simp at h
  repeat (first | refine AW.seq ?_ | refine AW.block ?_ | (refine AW.reg mix ?_; simp (implicitDefEqProofs := false); try simp (disch := omega) only [w64, wu64]) | (refine need.of (by first | omega | kernel_rfl) ?_) | (refine AW.fin ?_; try simp (implicitDefEqProofs := false)))
  refine CallS.pu (h2) ?_
  (try (simp (implicitDefEqProofs := false) [e1, e2]; try simp (disch := omega) only [w64, wu64]))
  repeat (first | refine AW.seq ?_ | refine AW.block ?_ | (refine AW.reg mix ?_; simp (implicitDefEqProofs := false) [e1, e2]; try simp (disch := omega) only [w64, wu64]) | (refine need.of (by first | omega | kernel_rfl) ?_) | (refine AW.fin ?_; try simp (implicitDefEqProofs := false) [e1, e2]))
  refine CallS.g [0] (h3) ?_
  (try (simp (implicitDefEqProofs := false) [e1, e2]; try simp (disch := omega) only [w64, wu64]))
  repeat (first | refine AW.seq ?_ | refine AW.block ?_ | (refine AW.reg mix ?_; simp (implicitDefEqProofs := false) [e1, e2]; try simp (disch := omega) only [w64, wu64]) | (refine need.of (by first | omega | kernel_rfl) ?_) | (refine AW.fin ?_; try simp (implicitDefEqProofs := false) [e1, e2]))
  refine CallS.g [0, 4] (h4) ?_
  (try (simp (implicitDefEqProofs := false) [e1, e2]; try simp (disch := omega) only [w64, wu64]))
  repeat (first | refine AW.seq ?_ | refine AW.block ?_ | (refine AW.reg mix ?_; simp (implicitDefEqProofs := false) [e1, e2]; try simp (disch := omega) only [w64, wu64]) | (refine need.of (by first | omega | kernel_rfl) ?_) | (refine AW.fin ?_; try simp (implicitDefEqProofs := false) [e1, e2]))
  refine CallS.g [0, 5] (h5) ?_
  (try (simp (implicitDefEqProofs := false) [e1, e2]; try simp (disch := omega) only [w64, wu64]))
  repeat (first | refine AW.seq ?_ | refine AW.block ?_ | (refine AW.reg mix ?_; simp (implicitDefEqProofs := false) [e1, e2]; try simp (disch := omega) only [w64, wu64]) | (refine need.of (by first | omega | kernel_rfl) ?_) | (refine AW.fin ?_; try simp (implicitDefEqProofs := false) [e1, e2]))

/-- what is read: state, error, the place behind -/
def readR (ws : List Nat) (k a b at_ : Nat) : (Nat × Nat × Bool) × Int × Nat :=
  if 8 * ws.length - at_ < kwR k a b + twR k b + 1 then ((0, 0, false), 5, at_)
  else if wellRB k a b (numAt ws at_ (kwR k a b)) (numAt ws (at_ + kwR k a b) (twR k b)) ((bitsOf ws).getD (at_ + kwR k a b + twR k b) false) then ((numAt ws at_ (kwR k a b), numAt ws (at_ + kwR k a b) (twR k b), (bitsOf ws).getD (at_ + kwR k a b + twR k b) false), 0, at_ + kwR k a b + twR k b + 1)
  else ((0, 0, false), 4, at_ + kwR k a b + twR k b + 1)
end
end Go.Proofs.YtakjegcjeffmgaaGreat.Am
namespace Go.Proofs.YtakjegcjeffmgaaGreat.Am
section
open Go.RowKit
set_option maxRecDepth 100000
set_option linter.unusedSimpArgs false
set_option linter.unusedVariables false

/-- a small parameter that may be -/
def SmallR (k a b : Nat) : Prop := k = 4 ∧ 1 ≤ a ∧ a ≤ 8 ∧ b ≤ 3 ∨ k ≠ 4 ∧ GoodS k a b
theorem goodR_of {k a b : Nat} (h : SmallR k a b) : GoodR k a b := by
  rcases h with ⟨rfl, h1, h2, h3⟩ | ⟨hk, h⟩
  · exact .inl ⟨rfl, h1, by omega, by omega⟩
  · exact .inr ⟨hk, goodC_of h⟩

theorem lown_ok (k a b : Int) : Eqn Tryz.prog n_Tlaw17_Own [.d (parD k a b)] [] (.d (parD k a b)) [] := by
  refine Eqn.pure r_Tlaw17_Own Plain.ok ?_
  simp only [c_Tlaw17_Own, parD]
  repeat (first | refine AW.seq ?_ | refine AW.block ?_ | (refine AW.reg mix ?_; simp (implicitDefEqProofs := false); try simp (disch := omega) only [w64, wu64]) | (refine need.of (by first | omega | kernel_rfl) ?_) | (refine AW.fin ?_; try simp (implicitDefEqProofs := false)))
theorem lstate_ok (y t : Int) (f : Bool) : Eqn Tryz.prog n_Tlaw17_State [.d (.agg [.int .i64 y, .int .i64 t, .bool f])] [] (.d (.agg [.int .i64 y, .int .i64 t, .bool f])) [] := by
  refine Eqn.pure r_Tlaw17_State Plain.ok ?_
  simp only [c_Tlaw17_State]
  repeat (first | refine AW.seq ?_ | refine AW.block ?_ | (refine AW.reg mix ?_; simp (implicitDefEqProofs := false); try simp (disch := omega) only [w64, wu64]) | (refine need.of (by first | omega | kernel_rfl) ?_) | (refine AW.fin ?_; try simp (implicitDefEqProofs := false)))

theorem and_tmod (y : Int) (m n : Nat) (hm : m ≤ 1000000) (hn : n ≤ 1000000) : ∃ (N Y : Nat), bits BinOp.and IntKind.i64 y (m : Int) = N ∧ IntKind.i64.wrap ((n : Int) + 1) = (n : Int) + 1 ∧ (N : Int).tmod ((n : Int) + 1) = Y ∧ Y ≤ n := by
  obtain ⟨N, h1, h2, h3⟩ := and_b y m (by omega)
  have hY : N % (n + 1) ≤ n := by have := Nat.mod_lt N (show 0 < n + 1 by omega); omega
  refine ⟨N, N % (n + 1), h1, w64 (by omega) (by omega), ?_, hY⟩
  rw [Int.tmod_eq_emod_of_nonneg (by omega)]; norm_cast

theorem lwithin_ok {k a b : Nat} (h : SmallR k a b) (y t : Int) (f : Bool) : ∃ (Y T : Nat) (F : Bool), WellR k a b Y T F ∧ Eqn Tryz.prog n_Tlaw17_Within [.d (parD k a b), .d (.agg [.int .i64 y, .int .i64 t, .bool f])] [] (.d (tsD Y T F)) [] := by
  rcases h with ⟨rfl, h1, h2, h3⟩ | ⟨hk, h⟩
  · obtain ⟨N1, Y, a1, a2, a3, a4⟩ := and_tmod y 7 a (by omega) (by omega)
    obtain ⟨N2, T, b1, b2, b3, b4⟩ := and_tmod t 3 b (by omega) (by omega)
    replace a1 : bits BinOp.and IntKind.i64 y 7 = N1 := a1
    replace b1 : bits BinOp.and IntKind.i64 t 3 = N2 := b1
    refine ⟨Y, T, f && (T == b), .inl ⟨rfl, a4, b4, by simp⟩, ?_⟩
    refine Eqn.pure r_Tlaw17_Within Plain.ok ?_
    have hF : ((T : Int) == (b : Int)) = (T == b) := by rw [Bool.eq_iff_iff]; simp; omega
    simp only [c_Tlaw17_Within, parD, tsD]
    generalize (T == b) = F at *
    cases f with
    | true =>
      repeat (first | refine AW.seq ?_ | refine AW.block ?_ | (refine AW.reg mix ?_; simp (implicitDefEqProofs := false) [-Bool.exists_bool]; try simp (disch := omega) only [w64, wu64]) | (refine need.of (by first | omega | kernel_rfl) ?_) | (refine AW.fin ?_; try simp (implicitDefEqProofs := false) [-Bool.exists_bool]))
      refine AW.cond rfl (fun h => ?_) (fun h => ?_)
      · repeat (first | refine AW.seq ?_ | refine AW.block ?_ | (refine AW.reg mix ?_; simp (implicitDefEqProofs := false) [a1, a2, a3, b1, b2, b3, hF, -Bool.exists_bool]; try simp (disch := omega) only [w64, wu64]) | (refine need.of (by first | omega | kernel_rfl) ?_) | (refine AW.fin ?_; try simp (implicitDefEqProofs := false) [a1, a2, a3, b1, b2, b3, hF, -Bool.exists_bool]))
      · simp at h
    | false =>
      repeat (first | refine AW.seq ?_ | refine AW.block ?_ | (refine AW.reg mix ?_; simp (implicitDefEqProofs := false) [-Bool.exists_bool]; try simp (disch := omega) only [w64, wu64]) | (refine need.of (by first | omega | kernel_rfl) ?_) | (refine AW.fin ?_; try simp (implicitDefEqProofs := false) [-Bool.exists_bool]))
      refine AW.cond rfl (fun h => ?_) (fun h => ?_)
      · repeat (first | refine AW.seq ?_ | refine AW.block ?_ | (refine AW.reg mix ?_; simp (implicitDefEqProofs := false) [a1, a2, a3, b1, b2, b3, hF, -Bool.exists_bool]; try simp (disch := omega) only [w64, wu64]) | (refine need.of (by first | omega | kernel_rfl) ?_) | (refine AW.fin ?_; try simp (implicitDefEqProofs := false) [a1, a2, a3, b1, b2, b3, hF, -Bool.exists_bool]))
      · simp at h
  · have hW : 2 ^ b - 1 ≤ 15 := by have := Nat.pow_le_pow_right (n := 2) (by omega) h.2.2; omega
    have hb2 : 0 < 2 ^ b := Nat.two_pow_pos b
    obtain ⟨N1, Y, a1, a2, a3, a4⟩ := and_tmod y 15 (2 ^ b - 1) (by omega) (by omega)
    replace a1 : bits BinOp.and IntKind.i64 y 15 = N1 := a1
    refine ⟨Y, 0, f && (Y == 2 ^ b - 1), .inr ⟨hk, rfl, a4, by simp⟩, ?_⟩
    refine Eqn.pure r_Tlaw17_Within Plain.ok ?_
    have hF : ((Y : Int) == ((2 ^ b - 1 : Nat) : Int)) = (Y == 2 ^ b - 1) := by rw [Bool.eq_iff_iff]; simp only [beq_iff_eq]; omega
    have e0 : (2 : Int) ^ b = (2 ^ b : Nat) := by rw [Int.natCast_pow]; rfl
    have hk' : ¬ (k : Int) = 4 := by omega
    have hb64 : b ≤ 64 := by have := h.2.2; omega
    simp only [c_Tlaw17_Within, parD, tsD]
    generalize (Y == 2 ^ b - 1) = F at *
    generalize 2 ^ b = S at *
    have e3 : IntKind.i64.wrap (S : Int) = S := w64 (by omega) (by omega)
    have e4 : IntKind.i64.wrap ((S : Int) - 1) = ((S - 1 : Nat) : Int) := by rw [w64 (by omega) (by omega)]; omega
    generalize S - 1 = S1 at *
    cases f with
    | true =>
      repeat (first | refine AW.seq ?_ | refine AW.block ?_ | (refine AW.reg mix ?_; simp (implicitDefEqProofs := false) [hk, hk', -Bool.exists_bool]; try simp (disch := omega) only [w64, wu64]) | (refine need.of (by first | omega | kernel_rfl) ?_) | (refine AW.fin ?_; try simp (implicitDefEqProofs := false) [hk, hk', -Bool.exists_bool]))
      refine AW.cond rfl (fun h => ?_) (fun h => ?_)
      · simp [hk'] at h
      · repeat (first | refine AW.seq ?_ | refine AW.block ?_ | (refine AW.reg mix ?_; simp (implicitDefEqProofs := false) [a1, a2, a3, e0, e3, e4, hF, hb64, -Bool.exists_bool]; try simp (disch := omega) only [w64, wu64]) | (refine need.of (by first | omega | kernel_rfl) ?_) | (refine AW.fin ?_; try simp (implicitDefEqProofs := false) [a1, a2, a3, e0, e3, e4, hF, hb64, -Bool.exists_bool]))
    | false =>
      repeat (first | refine AW.seq ?_ | refine AW.block ?_ | (refine AW.reg mix ?_; simp (implicitDefEqProofs := false) [hk, hk', -Bool.exists_bool]; try simp (disch := omega) only [w64, wu64]) | (refine need.of (by first | omega | kernel_rfl) ?_) | (refine AW.fin ?_; try simp (implicitDefEqProofs := false) [hk, hk', -Bool.exists_bool]))
      refine AW.cond rfl (fun h => ?_) (fun h => ?_)
      · simp [hk'] at h
      · repeat (first | refine AW.seq ?_ | refine AW.block ?_ | (refine AW.reg mix ?_; simp (implicitDefEqProofs := false) [a1, a2, a3, e0, e3, e4, hF, hb64, -Bool.exists_bool]; try simp (disch := omega) only [w64, wu64]) | (refine need.of (by first | omega | kernel_rfl) ?_) | (refine AW.fin ?_; try simp (implicitDefEqProofs := false) [a1, a2, a3, e0, e3, e4, hF, hb64, -Bool.exists_bool]))

/-- what a small parameter is made of -/
theorem lsmall_ok (k a b : Int) : ∃ K A B : Nat, SmallR K A B ∧ ∀ (y t : Int) (f : Bool), ∃ (Y T : Nat) (F : Bool), WellR K A B Y T F ∧ Eqn Tryz.prog n_Tlaw17_Small [.d (parD k a b), .d (.agg [.int .i64 y, .int .i64 t, .bool f])] [] (.tup [.d (parD K A B), .d (tsD Y T F)]) [] := by
  obtain ⟨e1, K, e2, hK, e3⟩ := tmod_r k 4 (by omega) (by omega)
  obtain ⟨B1, B2, b1, b2, b3, b4⟩ := and_tmod b 255 3 (by omega) (by omega)
  replace b1 : bits BinOp.and IntKind.i64 b 255 = B1 := b1
  replace b3 : (B1 : Int).tmod 4 = B2 := b3
  obtain ⟨B3, d1, d2, d3⟩ := and_b b 3 (by omega)
  obtain ⟨A1, a1, a2, a3⟩ := and_b a 3 (by omega)
  obtain ⟨A2, a4, a5, a6⟩ := and_b a 1 (by omega)
  obtain ⟨A3, a7, a8, a9⟩ := and_b a 7 (by omega)
  replace a1 : bits BinOp.and IntKind.i64 a 3 = A1 := a1
  replace a4 : bits BinOp.and IntKind.i64 a 1 = A2 := a4
  replace a7 : bits BinOp.and IntKind.i64 a 7 = A3 := a7
  replace d1 : bits BinOp.and IntKind.i64 b 3 = B3 := d1
  have e4 : IntKind.i64.wrap (1 + (B2 : Int)) = ((1 + B2 : Nat) : Int) := by rw [w64 (by omega) (by omega)]; omega
  have hK' : K = 0 ∨ K = 1 ∨ K = 2 ∨ K = 3 := by omega
  rcases hK' with rfl | rfl | rfl | rfl
  · refine ⟨1, 1 + A1, 1 + B2, .inr ⟨by omega, by omega, by omega, by omega⟩, fun y t f => ?_⟩
    obtain ⟨Y, T, F, hw, hE⟩ := lwithin_ok (k := 1) (a := 1 + A1) (b := 1 + B2) (.inr ⟨by omega, by omega, by omega, by omega⟩) y t f
    refine ⟨Y, T, F, hw, ?_⟩
    refine Eqn.pure r_Tlaw17_Small Plain.ok ?_
    simp only [c_Tlaw17_Small, parD, tsD] at hE ⊢
    generalize 1 + A1 = XA at *
    generalize 1 + B2 = XB at *
    repeat (first | refine AW.seq ?_ | refine AW.block ?_ | (refine AW.reg mix ?_; simp (implicitDefEqProofs := false) [e1, e2, e3, -Bool.exists_bool]; try simp (disch := omega) only [w64, wu64]) | (refine need.of (by first | omega | kernel_rfl) ?_) | (refine AW.fin ?_; try simp (implicitDefEqProofs := false) [e1, e2, e3, -Bool.exists_bool]))
    refine AW.cond rfl (fun h => ?_) (fun h => ?_)
    · repeat (first | refine AW.seq ?_ | refine AW.block ?_ | (refine AW.reg mix ?_; simp (implicitDefEqProofs := false) [b1, b3, e4, a1, a3, -Bool.exists_bool]; try simp (disch := omega) only [w64, wu64]) | (refine need.of (by first | omega | kernel_rfl) ?_) | (refine AW.fin ?_; try simp (implicitDefEqProofs := false) [b1, b3, e4, a1, a3, -Bool.exists_bool]))
      simp at hE
      refine CallS.pu (hE) ?_
      (try (simp (implicitDefEqProofs := false) [-Bool.exists_bool]; try simp (disch := omega) only [w64, wu64]))
      repeat (first | refine AW.seq ?_ | refine AW.block ?_ | (refine AW.reg mix ?_; simp (implicitDefEqProofs := false) [-Bool.exists_bool]; try simp (disch := omega) only [w64, wu64]) | (refine need.of (by first | omega | kernel_rfl) ?_) | (refine AW.fin ?_; try simp (implicitDefEqProofs := false) [-Bool.exists_bool]))
    · simp at h
  · refine ⟨2, A2, 1 + B2, .inr ⟨by omega, by omega, by omega, by omega⟩, fun y t f => ?_⟩
    obtain ⟨Y, T, F, hw, hE⟩ := lwithin_ok (k := 2) (a := A2) (b := 1 + B2) (.inr ⟨by omega, by omega, by omega, by omega⟩) y t f
    refine ⟨Y, T, F, hw, ?_⟩
    refine Eqn.pure r_Tlaw17_Small Plain.ok ?_
    simp only [c_Tlaw17_Small, parD, tsD] at hE ⊢
    generalize 1 + B2 = XB at *
    repeat (first | refine AW.seq ?_ | refine AW.block ?_ | (refine AW.reg mix ?_; simp (implicitDefEqProofs := false) [e1, e2, e3, -Bool.exists_bool]; try simp (disch := omega) only [w64, wu64]) | (refine need.of (by first | omega | kernel_rfl) ?_) | (refine AW.fin ?_; try simp (implicitDefEqProofs := false) [e1, e2, e3, -Bool.exists_bool]))
    refine AW.cond rfl (fun h => ?_) (fun h => ?_)
    · simp at h
    repeat (first | refine AW.seq ?_ | refine AW.block ?_ | (refine AW.reg mix ?_; simp (implicitDefEqProofs := false) [-Bool.exists_bool]; try simp (disch := omega) only [w64, wu64]) | (refine need.of (by first | omega | kernel_rfl) ?_) | (refine AW.fin ?_; try simp (implicitDefEqProofs := false) [-Bool.exists_bool]))
    refine AW.cond rfl (fun h => ?_) (fun h => ?_)
    · repeat (first | refine AW.seq ?_ | refine AW.block ?_ | (refine AW.reg mix ?_; simp (implicitDefEqProofs := false) [b1, b3, e4, a4, -Bool.exists_bool]; try simp (disch := omega) only [w64, wu64]) | (refine need.of (by first | omega | kernel_rfl) ?_) | (refine AW.fin ?_; try simp (implicitDefEqProofs := false) [b1, b3, e4, a4, -Bool.exists_bool]))
      simp at hE
      refine CallS.pu (hE) ?_
      (try (simp (implicitDefEqProofs := false) [-Bool.exists_bool]; try simp (disch := omega) only [w64, wu64]))
      repeat (first | refine AW.seq ?_ | refine AW.block ?_ | (refine AW.reg mix ?_; simp (implicitDefEqProofs := false) [-Bool.exists_bool]; try simp (disch := omega) only [w64, wu64]) | (refine need.of (by first | omega | kernel_rfl) ?_) | (refine AW.fin ?_; try simp (implicitDefEqProofs := false) [-Bool.exists_bool]))
    · simp at h
  · refine ⟨3, 1 + A2, 1 + B2, .inr ⟨by omega, by omega, by omega, by omega⟩, fun y t f => ?_⟩
    obtain ⟨Y, T, F, hw, hE⟩ := lwithin_ok (k := 3) (a := 1 + A2) (b := 1 + B2) (.inr ⟨by omega, by omega, by omega, by omega⟩) y t f
    refine ⟨Y, T, F, hw, ?_⟩
    refine Eqn.pure r_Tlaw17_Small Plain.ok ?_
    simp only [c_Tlaw17_Small, parD, tsD] at hE ⊢
    generalize 1 + A2 = XA at *
    generalize 1 + B2 = XB at *
    repeat (first | refine AW.seq ?_ | refine AW.block ?_ | (refine AW.reg mix ?_; simp (implicitDefEqProofs := false) [e1, e2, e3, -Bool.exists_bool]; try simp (disch := omega) only [w64, wu64]) | (refine need.of (by first | omega | kernel_rfl) ?_) | (refine AW.fin ?_; try simp (implicitDefEqProofs := false) [e1, e2, e3, -Bool.exists_bool]))
    refine AW.cond rfl (fun h => ?_) (fun h => ?_)
    · simp at h
    repeat (first | refine AW.seq ?_ | refine AW.block ?_ | (refine AW.reg mix ?_; simp (implicitDefEqProofs := false) [-Bool.exists_bool]; try simp (disch := omega) only [w64, wu64]) | (refine need.of (by first | omega | kernel_rfl) ?_) | (refine AW.fin ?_; try simp (implicitDefEqProofs := false) [-Bool.exists_bool]))
    refine AW.cond rfl (fun h => ?_) (fun h => ?_)
    · simp at h
    repeat (first | refine AW.seq ?_ | refine AW.block ?_ | (refine AW.reg mix ?_; simp (implicitDefEqProofs := false) [-Bool.exists_bool]; try simp (disch := omega) only [w64, wu64]) | (refine need.of (by first | omega | kernel_rfl) ?_) | (refine AW.fin ?_; try simp (implicitDefEqProofs := false) [-Bool.exists_bool]))
    refine AW.cond rfl (fun h => ?_) (fun h => ?_)
    · repeat (first | refine AW.seq ?_ | refine AW.block ?_ | (refine AW.reg mix ?_; simp (implicitDefEqProofs := false) [b1, b3, e4, a4, a6, -Bool.exists_bool]; try simp (disch := omega) only [w64, wu64]) | (refine need.of (by first | omega | kernel_rfl) ?_) | (refine AW.fin ?_; try simp (implicitDefEqProofs := false) [b1, b3, e4, a4, a6, -Bool.exists_bool]))
      simp at hE
      refine CallS.pu (hE) ?_
      (try (simp (implicitDefEqProofs := false) [-Bool.exists_bool]; try simp (disch := omega) only [w64, wu64]))
      repeat (first | refine AW.seq ?_ | refine AW.block ?_ | (refine AW.reg mix ?_; simp (implicitDefEqProofs := false) [-Bool.exists_bool]; try simp (disch := omega) only [w64, wu64]) | (refine need.of (by first | omega | kernel_rfl) ?_) | (refine AW.fin ?_; try simp (implicitDefEqProofs := false) [-Bool.exists_bool]))
    · simp at h
  · refine ⟨4, 1 + A3, B3, .inl ⟨rfl, by omega, by omega, by omega⟩, fun y t f => ?_⟩
    obtain ⟨Y, T, F, hw, hE⟩ := lwithin_ok (k := 4) (a := 1 + A3) (b := B3) (.inl ⟨rfl, by omega, by omega, by omega⟩) y t f
    refine ⟨Y, T, F, hw, ?_⟩
    refine Eqn.pure r_Tlaw17_Small Plain.ok ?_
    simp only [c_Tlaw17_Small, parD, tsD] at hE ⊢
    generalize 1 + A3 = XA at *
    repeat (first | refine AW.seq ?_ | refine AW.block ?_ | (refine AW.reg mix ?_; simp (implicitDefEqProofs := false) [e1, e2, e3, -Bool.exists_bool]; try simp (disch := omega) only [w64, wu64]) | (refine need.of (by first | omega | kernel_rfl) ?_) | (refine AW.fin ?_; try simp (implicitDefEqProofs := false) [e1, e2, e3, -Bool.exists_bool]))
    refine AW.cond rfl (fun h => ?_) (fun h => ?_)
    · simp at h
    repeat (first | refine AW.seq ?_ | refine AW.block ?_ | (refine AW.reg mix ?_; simp (implicitDefEqProofs := false) [-Bool.exists_bool]; try simp (disch := omega) only [w64, wu64]) | (refine need.of (by first | omega | kernel_rfl) ?_) | (refine AW.fin ?_; try simp (implicitDefEqProofs := false) [-Bool.exists_bool]))
    refine AW.cond rfl (fun h => ?_) (fun h => ?_)
    · simp at h
    repeat (first | refine AW.seq ?_ | refine AW.block ?_ | (refine AW.reg mix ?_; simp (implicitDefEqProofs := false) [-Bool.exists_bool]; try simp (disch := omega) only [w64, wu64]) | (refine need.of (by first | omega | kernel_rfl) ?_) | (refine AW.fin ?_; try simp (implicitDefEqProofs := false) [-Bool.exists_bool]))
    refine AW.cond rfl (fun h => ?_) (fun h => ?_)
    · simp at h
    · repeat (first | refine AW.seq ?_ | refine AW.block ?_ | (refine AW.reg mix ?_; simp (implicitDefEqProofs := false) [d1, a7, a9, -Bool.exists_bool]; try simp (disch := omega) only [w64, wu64]) | (refine need.of (by first | omega | kernel_rfl) ?_) | (refine AW.fin ?_; try simp (implicitDefEqProofs := false) [d1, a7, a9, -Bool.exists_bool]))
      simp at hE
      refine CallS.pu (hE) ?_
      (try (simp (implicitDefEqProofs := false) [-Bool.exists_bool]; try simp (disch := omega) only [w64, wu64]))
      repeat (first | refine AW.seq ?_ | refine AW.block ?_ | (refine AW.reg mix ?_; simp (implicitDefEqProofs := false) [-Bool.exists_bool]; try simp (disch := omega) only [w64, wu64]) | (refine need.of (by first | omega | kernel_rfl) ?_) | (refine AW.fin ?_; try simp (implicitDefEqProofs := false) [-Bool.exists_bool]))
end
end Go.Proofs.YtakjegcjeffmgaaGreat.Am
namespace Go.Proofs.YtakjegcjeffmgaaGreat.Am
section
open Go.RowKit
set_option maxRecDepth 100000
set_option linter.unusedSimpArgs false
set_option linter.unusedVariables false
end
end Go.Proofs.YtakjegcjeffmgaaGreat.Am
namespace Go.Proofs.YtakjegcjeffmgaaGreat.Am
section
open Go.RowKit
set_option maxRecDepth 100000
set_option linter.unusedSimpArgs false
set_option linter.unusedVariables false
end
end Go.Proofs.YtakjegcjeffmgaaGreat.Am
namespace Go.Proofs.YtakjegcjeffmgaaGreat.Am
section
open Go.RowKit

theorem fnOf_enter {P : Program} {f : FuncId} {c : C} {rs : List RV} {nt : Nat} (hf : fnOf P f = some (c, rs, nt, false)) (vs : Array Value) (w : World) : (callFunc f vs).run P w = .ok (.enter f vs) w := by
  unfold fnOf at hf
  split at hf
  · rename_i fn hfn
    split at hf
    · rename_i b hb
      simp only [Option.some.injEq, Prod.mk.injEq] at hf
      obtain ⟨h1, h2, h3, h4⟩ := hf
      have h1 : ¬ fn.name = "runtime.NumGoroutine" := by simpa using h4
      simp [callFunc, hfn, h1, hb]
    · cases hf
  · cases hf

/-- the world that a law finds: nothing has a name, what is there stays -/
abbrev memW (W : World) : Mem := ⟨fun _ => none, fun b => b < W.heap.size, W⟩

theorem law_walk {P : Program} {f : FuncId} {args : List V} {c : C} {rs : List RV} {nt : Nat} (hf : fnOf P f = some (c, rs, nt, false)) (E : Eqn P f args [] (.d (.bool true)) []) {W : World} {vs : List Value} (h : V.reps (memW W) args vs) :
    Calls P f vs.toArray W (fun e W' => e = .returned (.bool true) ∧ Same W W') := by
  rcases E.run (memW W) vs ⟨fun b h => h, fun n b h => by cases h⟩ h (by simp) (fun n i b h => by simp at h) (fun _ _ => rfl) with ⟨v, h1, _⟩ | ⟨_, h2⟩
  · rw [fnOf_enter hf] at h1; cases h1
  · refine h2.mono ?_
    rintro e w' ⟨v, m', rfl, rfl, hE⟩
    have hv := hE.rep
    rw [V.rep_d] at hv
    unfold D.rep at hv
    subst hv
    exact ⟨rfl, hE.le.os, hE.le.tape, hE.le.output, hE.le.size, fun k hk _ => hE.le.imm k hk⟩

theorem reps_of {I : Nat → Prop} {w : World} {α : Type} (f : α → D) (g : α → Value) (h : ∀ a, D.rep I w (f a) (g a)) : ∀ l : List α, D.reps I w (l.map f) (l.map g)
  | [] => by simp
  | a :: l => by
    rw [List.map_cons, List.map_cons, D.reps_cons]
    exact ⟨h a, reps_of f g h l⟩

/-- a slice that came in, of cells that are data -/
theorem rep_cells {W : World} {v : Value} {α : Type} {l : List α} (f : α → D) (g : α → Value) (hg : ∀ a, (g a).oneCell' = true) (hr : ∀ a, D.rep (fun b => b < W.heap.size) W (f a) (g a)) (h : Cells W v 1 l.length (l.map g)) : V.rep (memW W) (.d (.sl l.length (l.map f))) v := by
  rw [V.rep_d]
  unfold D.rep
  obtain ⟨h1, p, cap, rfl, h2, h3, h4⟩ := h
  refine ⟨p, cap, rfl, h2, h3, l.map g, fun u hu => ?_, reps_of f g hr l, ?_⟩
  · obtain ⟨a, -, rfl⟩ := List.mem_map.1 hu
    exact hg a
  · rcases h4 with ⟨rfl, h5, h6⟩ | ⟨b, o, rfl, hb, hc⟩
    · left
      exact ⟨rfl, h6, by rw [List.eq_nil_of_length_eq_zero h5]; rfl⟩
    · exact .inr ⟨b, o, rfl, .inr hb, hc⟩

/-- bools that came in -/
theorem rep_bools {W : World} {v : Value} {cs : List Bool} (h : Bools W v cs) : V.rep (memW W) (.d (.sl cs.length (cs.map .bool))) v :=
  rep_cells D.bool Value.bool (fun _ => rfl) (fun _ => by unfold D.rep; rfl) h
theorem bools_len {W : World} {v : Value} {cs : List Bool} (h : Bools W v cs) : cs.length ≤ maxLen := h.len

/-- numbers and bools that came in -/
theorem rep_agg {W : World} {l : List D} {vs : List Value} (h1 : ∀ u ∈ vs, u.oneCell' = true) (h : D.reps (fun b => b < W.heap.size) W l vs) : V.rep (memW W) (.d (.agg l)) (.agg vs.toArray) := by
  rw [V.rep_d]
  unfold D.rep
  exact ⟨vs, rfl, h1, h⟩
end
end Go.Proofs.YtakjegcjeffmgaaGreat.Am
namespace Go.Proofs.YtakjegcjeffmgaaGreat.Am
section
open Go.RowKit
set_option maxRecDepth 100000
set_option linter.unusedSimpArgs false
set_option linter.unusedVariables false

theorem lawake_ok : Eqn Tryz.prog n_Tlaw17_awake [] [] (.d (.bool true)) [] := by
  refine Eqn.pure r_Tlaw17_awake Plain.ok ?_
  simp only [c_Tlaw17_awake]
  have hg : GoodR 2 1 3 := goodR_of (.inr ⟨by omega, by omega, by omega, by omega⟩)
  have h1 := rcheck_ok hg
  have h2 := rbits_ok hg
  have h3 := rwrite0_ok (y := 5) (t := 0) (f := false) hg (.inr ⟨by omega, rfl, by omega, by simp⟩)
  have h4 := wlen_ok 0 (encR 2 1 3 5 0 false)
  have h5 := rwell_ok hg 7 0 true
  rw [show wellRB 2 1 3 7 0 true = true by decide] at h5
  rw [show kwR 2 1 3 + twR 2 3 + 1 = 4 by decide] at h2
  rw [encR_len, show kwR 2 1 3 + twR 2 3 + 1 = 4 by decide] at h4
  simp only [parD, tsD, wrO, wrB] at h1 h2 h3 h4 h5
  simp at h1 h2 h3 h4 h5
  repeat (first | refine AW.seq ?_ | refine AW.block ?_ | (refine AW.reg mix ?_; simp (implicitDefEqProofs := false) [-Bool.exists_bool]; try simp (disch := omega) only [w64, wu64]) | (refine need.of (by first | omega | kernel_rfl) ?_) | (refine AW.fin ?_; try simp (implicitDefEqProofs := false) [-Bool.exists_bool]))
  refine CallS.g [1] (h3) ?_
  (try (simp (implicitDefEqProofs := false) [-Bool.exists_bool]; try simp (disch := omega) only [w64, wu64]))
  repeat (first | refine AW.seq ?_ | refine AW.block ?_ | (refine AW.reg mix ?_; simp (implicitDefEqProofs := false) [-Bool.exists_bool]; try simp (disch := omega) only [w64, wu64]) | (refine need.of (by first | omega | kernel_rfl) ?_) | (refine AW.fin ?_; try simp (implicitDefEqProofs := false) [-Bool.exists_bool]))
  refine CallS.pu (h1) ?_
  (try (simp (implicitDefEqProofs := false) [-Bool.exists_bool]; try simp (disch := omega) only [w64, wu64]))
  repeat (first | refine AW.seq ?_ | refine AW.block ?_ | (refine AW.reg mix ?_; simp (implicitDefEqProofs := false) [-Bool.exists_bool]; try simp (disch := omega) only [w64, wu64]) | (refine need.of (by first | omega | kernel_rfl) ?_) | (refine AW.fin ?_; try simp (implicitDefEqProofs := false) [-Bool.exists_bool]))
  refine CallS.pu (h2) ?_
  (try (simp (implicitDefEqProofs := false) [-Bool.exists_bool]; try simp (disch := omega) only [w64, wu64]))
  repeat (first | refine AW.seq ?_ | refine AW.block ?_ | (refine AW.reg mix ?_; simp (implicitDefEqProofs := false) [-Bool.exists_bool]; try simp (disch := omega) only [w64, wu64]) | (refine need.of (by first | omega | kernel_rfl) ?_) | (refine AW.fin ?_; try simp (implicitDefEqProofs := false) [-Bool.exists_bool]))
  refine CallS.g [1, 2] (h4) ?_
  (try (simp (implicitDefEqProofs := false) [-Bool.exists_bool]; try simp (disch := omega) only [w64, wu64]))
  repeat (first | refine AW.seq ?_ | refine AW.block ?_ | (refine AW.reg mix ?_; simp (implicitDefEqProofs := false) [-Bool.exists_bool]; try simp (disch := omega) only [w64, wu64]) | (refine need.of (by first | omega | kernel_rfl) ?_) | (refine AW.fin ?_; try simp (implicitDefEqProofs := false) [-Bool.exists_bool]))
  refine CallS.pu (h5) ?_
  (try (simp (implicitDefEqProofs := false) [-Bool.exists_bool]; try simp (disch := omega) only [w64, wu64]))
  repeat (first | refine AW.seq ?_ | refine AW.block ?_ | (refine AW.reg mix ?_; simp (implicitDefEqProofs := false) [-Bool.exists_bool]; try simp (disch := omega) only [w64, wu64]) | (refine need.of (by first | omega | kernel_rfl) ?_) | (refine AW.fin ?_; try simp (implicitDefEqProofs := false) [-Bool.exists_bool]))

theorem stR_get (R : TR) {k a b y t : Nat} {f : Bool} (hw : WellR k a b y t f) (hR : R.e = 0 → WellR k a b R.y R.t R.f) : ∃ (Y T : Nat) (F : Bool), stR R y t f = tsD Y T F ∧ WellR k a b Y T F ∧ (R.e ≠ 0 → Y = y ∧ T = t ∧ F = f) ∧ (R.e = 0 → Y = R.y ∧ T = R.t ∧ F = R.f) := by
  unfold stR
  by_cases h : R.e = 0
  · rw [if_pos h]; exact ⟨_, _, _, rfl, hR h, fun h' => absurd h h', fun _ => ⟨rfl, rfl, rfl⟩⟩
  · rw [if_neg h]; exact ⟨_, _, _, rfl, hw, fun _ => ⟨rfl, rfl, rfl⟩, fun h' => absurd h' h⟩

/-- what an act comes to: n more, or another one merged into it -/
def actM (cs : List Bool) (k a b y t : Nat) (f : Bool) (z u : Nat) (g : Bool) (n : Nat) (m : Bool) (p : Nat) (d : Bool) : TR := if m then mergeRM cs k a b y t f z u g p d else addRM cs k a b n y t f p d

set_option maxHeartbeats 1000000 in
theorem theirs_ok (cs : List Bool) (k a b y t : Nat) (f : Bool) (z u : Nat) (g : Bool) (n : Nat) (m : Bool) (p : Nat) (d : Bool) (h : GoodR k a b) (hw : WellR k a b y t f) (hv : WellR k a b z u g) (hn : n ≤ 1048576) (hp : p ≤ cs.length) (hc : cs.length ≤ 4000000) (R : TR) (hR : R = actM cs k a b y t f z u g n m p d) :
    Eqn Tryz.prog n_Tlaw17_theirs [.d (parD k a b), .p 0 0, .d (tsD y t f), .d (tsD z u g), .d (.int .i64 n), .d (.bool m)] [tapeO cs p d] (.tup [.d (stR R y t f), .d (.int .i64 R.e)]) [tapeO cs R.p R.d] := by
  refine Eqn.obj1 r_Tlaw17_theirs Plain.ok ⟨rfl, fun _ => rfl⟩ ?_
  unfold actM at hR
  rcases hw with ⟨rfl, hw⟩ | ⟨hk, rfl, hy, hf⟩
  · replace h : GoodT a b := by
      rcases h with ⟨-, h⟩ | ⟨hk, -⟩
      · exact h
      · exact absurd rfl hk
    replace hv : WellT a b z u g := by
      rcases hv with ⟨-, h⟩ | ⟨hk, -⟩
      · exact h
      · exact absurd rfl hk
    have h3 : m = true → _ := fun hm => tmerge_ok cs a b y t f z u g p d h hw hv hp hc R (by rw [hR, hm, if_pos rfl, mergeRM, if_pos rfl])
    have h4 : m = false → _ := fun hm => tadd_ok cs a b y t f n p d h hw (by omega) hp hc R (by rw [hR, hm, if_neg (by simp), addRM, if_pos rfl]; congr 1)
    clear hR
    obtain ⟨e, ry, rt, rf, rp, rd⟩ := R
    simp only [c_Tlaw17_theirs, parD, tpD, tsD, stR, show ((4 : Nat) : Int) = 4 from rfl] at h3 h4 ⊢
    obtain ⟨Y, T, F, hS⟩ : ∃ (Y T : Nat) (F : Bool), (if e = 0 then D.agg [.int .i64 ry, .int .i64 rt, .bool rf] else D.agg [.int .i64 y, .int .i64 t, .bool f]) = D.agg [.int .i64 Y, .int .i64 T, .bool F] := by
      split
      · exact ⟨ry, rt, rf, rfl⟩
      · exact ⟨y, t, f, rfl⟩
    rw [hS] at h3 h4 ⊢
    cases m with
    | true =>
      replace h3 := h3 rfl
      repeat (first | refine AW.seq ?_ | refine AW.block ?_ | (refine AW.reg mix ?_; simp (implicitDefEqProofs := false) [-Bool.exists_bool]; try simp (disch := omega) only [w64, wu64]) | (refine need.of (by first | omega | kernel_rfl) ?_) | (refine AW.fin ?_; try simp (implicitDefEqProofs := false) [-Bool.exists_bool]))
      refine AW.cond rfl (fun h => ?_) (fun h => ?_)
      · repeat (first | refine AW.seq ?_ | refine AW.block ?_ | (refine AW.reg mix ?_; simp (implicitDefEqProofs := false) [-Bool.exists_bool]; try simp (disch := omega) only [w64, wu64]) | (refine need.of (by first | omega | kernel_rfl) ?_) | (refine AW.fin ?_; try simp (implicitDefEqProofs := false) [-Bool.exists_bool]))
        refine AW.cond rfl (fun h => ?_) (fun h => ?_)
        · repeat (first | refine AW.seq ?_ | refine AW.block ?_ | (refine AW.reg mix ?_; simp (implicitDefEqProofs := false) [-Bool.exists_bool]; try simp (disch := omega) only [w64, wu64]) | (refine need.of (by first | omega | kernel_rfl) ?_) | (refine AW.fin ?_; try simp (implicitDefEqProofs := false) [-Bool.exists_bool]))
          refine CallS.o1 0 (h3) ?_
          (try (simp (implicitDefEqProofs := false) [-Bool.exists_bool]; try simp (disch := omega) only [w64, wu64]))
          repeat (first | refine AW.seq ?_ | refine AW.block ?_ | (refine AW.reg mix ?_; simp (implicitDefEqProofs := false) [-Bool.exists_bool]; try simp (disch := omega) only [w64, wu64]) | (refine need.of (by first | omega | kernel_rfl) ?_) | (refine AW.fin ?_; try simp (implicitDefEqProofs := false) [-Bool.exists_bool]))
        · simp at h
      · simp at h
    | false =>
      replace h4 := h4 rfl
      repeat (first | refine AW.seq ?_ | refine AW.block ?_ | (refine AW.reg mix ?_; simp (implicitDefEqProofs := false) [-Bool.exists_bool]; try simp (disch := omega) only [w64, wu64]) | (refine need.of (by first | omega | kernel_rfl) ?_) | (refine AW.fin ?_; try simp (implicitDefEqProofs := false) [-Bool.exists_bool]))
      refine AW.cond rfl (fun h => ?_) (fun h => ?_)
      · repeat (first | refine AW.seq ?_ | refine AW.block ?_ | (refine AW.reg mix ?_; simp (implicitDefEqProofs := false) [-Bool.exists_bool]; try simp (disch := omega) only [w64, wu64]) | (refine need.of (by first | omega | kernel_rfl) ?_) | (refine AW.fin ?_; try simp (implicitDefEqProofs := false) [-Bool.exists_bool]))
        refine AW.cond rfl (fun h => ?_) (fun h => ?_)
        · simp at h
        · repeat (first | refine AW.seq ?_ | refine AW.block ?_ | (refine AW.reg mix ?_; simp (implicitDefEqProofs := false) [-Bool.exists_bool]; try simp (disch := omega) only [w64, wu64]) | (refine need.of (by first | omega | kernel_rfl) ?_) | (refine AW.fin ?_; try simp (implicitDefEqProofs := false) [-Bool.exists_bool]))
          refine CallS.o1 0 (h4) ?_
          (try (simp (implicitDefEqProofs := false) [-Bool.exists_bool]; try simp (disch := omega) only [w64, wu64]))
          repeat (first | refine AW.seq ?_ | refine AW.block ?_ | (refine AW.reg mix ?_; simp (implicitDefEqProofs := false) [-Bool.exists_bool]; try simp (disch := omega) only [w64, wu64]) | (refine need.of (by first | omega | kernel_rfl) ?_) | (refine AW.fin ?_; try simp (implicitDefEqProofs := false) [-Bool.exists_bool]))
      · simp at h
  · replace h : GoodC k a b := by
      rcases h with ⟨rfl, -⟩ | ⟨-, h⟩
      · exact absurd rfl hk
      · exact h
    rcases hv with ⟨rfl, -⟩ | ⟨-, rfl, hz, hg⟩
    · exact absurd rfl hk
    have h3 := mergeC_ok h cs hc y hy f z hz g p d hp _ rfl
    have h4 := addC_ok h cs hc y hy f n hn p d hp _ rfl
    have hk' : ¬ (k : Int) = 4 := by omega
    cases m with
    | true =>
      rw [if_pos rfl, mergeRM, if_neg hk] at hR
      generalize mergeL (agOf cs k a) (2 ^ b - 1) z 0 y f p d = S at *
      subst hR
      obtain ⟨e, sx, sf, sp, sd⟩ := S
      simp only [c_Tlaw17_theirs, parD, tsD, stR] at h3 ⊢
      obtain ⟨Y, F, hS1, hS2, hS⟩ : ∃ (Y : Nat) (F : Bool), (if e = 0 then sx else y) = Y ∧ (if e = 0 then sf || g else f) = F ∧ (if e = 0 then D.agg [.int .i64 sx, .int .i64 (0 : Nat), .bool (sf || g)] else D.agg [.int .i64 y, .int .i64 (0 : Nat), .bool f]) = D.agg [.int .i64 Y, .int .i64 0, .bool F] := by
        by_cases he : e = 0
        · simp only [if_pos he]; exact ⟨sx, _, rfl, rfl, rfl⟩
        · simp only [if_neg he]; exact ⟨y, f, rfl, rfl, rfl⟩
      rw [hS1, hS2] at h3
      rw [hS]
      repeat (first | refine AW.seq ?_ | refine AW.block ?_ | (refine AW.reg mix ?_; simp (implicitDefEqProofs := false) [hk, hk', -Bool.exists_bool]; try simp (disch := omega) only [w64, wu64]) | (refine need.of (by first | omega | kernel_rfl) ?_) | (refine AW.fin ?_; try simp (implicitDefEqProofs := false) [hk, hk', -Bool.exists_bool]))
      refine AW.cond rfl (fun h => ?_) (fun h => ?_)
      · simp [hk'] at h
      · repeat (first | refine AW.seq ?_ | refine AW.block ?_ | (refine AW.reg mix ?_; simp (implicitDefEqProofs := false) [-Bool.exists_bool]; try simp (disch := omega) only [w64, wu64]) | (refine need.of (by first | omega | kernel_rfl) ?_) | (refine AW.fin ?_; try simp (implicitDefEqProofs := false) [-Bool.exists_bool]))
        refine AW.cond rfl (fun h => ?_) (fun h => ?_)
        · repeat (first | refine AW.seq ?_ | refine AW.block ?_ | (refine AW.reg mix ?_; simp (implicitDefEqProofs := false) [-Bool.exists_bool]; try simp (disch := omega) only [w64, wu64]) | (refine need.of (by first | omega | kernel_rfl) ?_) | (refine AW.fin ?_; try simp (implicitDefEqProofs := false) [-Bool.exists_bool]))
          refine CallS.o1 0 (h3) ?_
          (try (simp (implicitDefEqProofs := false) [-Bool.exists_bool]; try simp (disch := omega) only [w64, wu64]))
          repeat (first | refine AW.seq ?_ | refine AW.block ?_ | (refine AW.reg mix ?_; simp (implicitDefEqProofs := false) [-Bool.exists_bool]; try simp (disch := omega) only [w64, wu64]) | (refine need.of (by first | omega | kernel_rfl) ?_) | (refine AW.fin ?_; try simp (implicitDefEqProofs := false) [-Bool.exists_bool]))
        · simp at h
    | false =>
      rw [if_neg (by simp), addRM, if_neg hk] at hR
      generalize addL (stOf cs k a) (2 ^ b - 1) n y f p d = S at *
      subst hR
      obtain ⟨e, sx, sf, sp, sd⟩ := S
      simp only [c_Tlaw17_theirs, parD, tsD, stR] at h4 ⊢
      obtain ⟨Y, F, hS1, hS2, hS⟩ : ∃ (Y : Nat) (F : Bool), (if e = 0 then sx else y) = Y ∧ (if e = 0 then sf else f) = F ∧ (if e = 0 then D.agg [.int .i64 sx, .int .i64 (0 : Nat), .bool sf] else D.agg [.int .i64 y, .int .i64 (0 : Nat), .bool f]) = D.agg [.int .i64 Y, .int .i64 0, .bool F] := by
        by_cases he : e = 0
        · simp only [if_pos he]; exact ⟨sx, _, rfl, rfl, rfl⟩
        · simp only [if_neg he]; exact ⟨y, f, rfl, rfl, rfl⟩
      rw [hS1, hS2] at h4
      rw [hS]
      repeat (first | refine AW.seq ?_ | refine AW.block ?_ | (refine AW.reg mix ?_; simp (implicitDefEqProofs := false) [hk, hk', -Bool.exists_bool]; try simp (disch := omega) only [w64, wu64]) | (refine need.of (by first | omega | kernel_rfl) ?_) | (refine AW.fin ?_; try simp (implicitDefEqProofs := false) [hk, hk', -Bool.exists_bool]))
      refine AW.cond rfl (fun h => ?_) (fun h => ?_)
      · simp [hk'] at h
      · repeat (first | refine AW.seq ?_ | refine AW.block ?_ | (refine AW.reg mix ?_; simp (implicitDefEqProofs := false) [-Bool.exists_bool]; try simp (disch := omega) only [w64, wu64]) | (refine need.of (by first | omega | kernel_rfl) ?_) | (refine AW.fin ?_; try simp (implicitDefEqProofs := false) [-Bool.exists_bool]))
        refine AW.cond rfl (fun h => ?_) (fun h => ?_)
        · simp at h
        · repeat (first | refine AW.seq ?_ | refine AW.block ?_ | (refine AW.reg mix ?_; simp (implicitDefEqProofs := false) [-Bool.exists_bool]; try simp (disch := omega) only [w64, wu64]) | (refine need.of (by first | omega | kernel_rfl) ?_) | (refine AW.fin ?_; try simp (implicitDefEqProofs := false) [-Bool.exists_bool]))
          refine CallS.o1 0 (h4) ?_
          (try (simp (implicitDefEqProofs := false) [-Bool.exists_bool]; try simp (disch := omega) only [w64, wu64]))
          repeat (first | refine AW.seq ?_ | refine AW.block ?_ | (refine AW.reg mix ?_; simp (implicitDefEqProofs := false) [-Bool.exists_bool]; try simp (disch := omega) only [w64, wu64]) | (refine need.of (by first | omega | kernel_rfl) ?_) | (refine AW.fin ?_; try simp (implicitDefEqProofs := false) [-Bool.exists_bool]))
end
end Go.Proofs.YtakjegcjeffmgaaGreat.Am
namespace Go.Proofs.YtakjegcjeffmgaaGreat.Am
section
open Go.RowKit
set_option maxRecDepth 100000
set_option linter.unusedSimpArgs false
set_option linter.unusedVariables false

set_option maxHeartbeats 4000000 in
theorem regPlays_ok (cs : List Bool) (k a b y t z u : Int) (f g : Bool) (hn : cs.length ≤ 9223372036854775807) : Eqn Tryz.prog n_Tlaw17_RegPlays [.d (parD k a b), .d (.agg [.int .i64 y, .int .i64 t, .bool f, .int .i64 z, .int .i64 u, .bool g]), .d (BL cs)] [] (.d (.bool true)) [] := by
  refine Eqn.pure r_Tlaw17_RegPlays Plain.ok ?_
  obtain ⟨K, A, B, hsr, hsm⟩ := lsmall_ok k a b
  obtain ⟨Y, T, F, hw, hs1⟩ := hsm y t f
  obtain ⟨Z, U, G, hv, hs2⟩ := hsm z u g
  have hg := goodR_of hsr
  have hfew := few_ok cs 200 hn (by omega)
  have hl : (cs.take 200).length ≤ 200 := by rw [List.length_take]; omega
  generalize cs.take 200 = xs at hfew hl
  have hown := lown_ok K A B
  have hst1 := lstate_ok Y T F
  have hst2 := lstate_ok Z U G
  obtain ⟨n, hN, hn15⟩ : ∃ n : Nat, (xs.length : Int).tmod 15 = n ∧ n ≤ 14 := ⟨xs.length % 15, by rw [Int.tmod_eq_emod_of_nonneg (by omega)]; rfl, by omega⟩
  have hN' : (xs.length : Int) % 15 = n := by rw [← hN, Int.tmod_eq_emod_of_nonneg (by omega)]
  have hadd := fun R hR => radd_ok xs K A B Y T F n 0 false hg hw (by omega) (Nat.zero_le _) (by omega) R hR
  have hmer := fun R hR => rmerge_ok xs K A B Y T F Z U G 0 false hg hw hv (Nat.zero_le _) (by omega) R hR
  have hthe := fun m R hR => theirs_ok xs K A B Y T F Z U G n m 0 false hg hw hv (by omega) (Nat.zero_le _) (by omega) R hR
  have hwell : ∀ y t f, WellR K A B y t f → Eqn Tryz.prog n_reg_Param_Well [.d (parD K A B), .d (tsD y t f)] [] (.d (.bool true)) [] := fun y t f h => by
    have := rwell_ok hg y t f
    rw [wellRB_iff.2 h] at this
    exact this
  simp only [c_Tlaw17_RegPlays, parD] at hs1 hs2 hown hadd hmer hthe hwell ⊢
  repeat (first | refine AW.seq ?_ | refine AW.block ?_ | (refine AW.reg mix ?_; simp (implicitDefEqProofs := false) [-Bool.exists_bool]; try simp (disch := omega) only [w64, wu64]) | (refine need.of (by first | omega | kernel_rfl) ?_) | (refine AW.fin ?_; try simp (implicitDefEqProofs := false) [-Bool.exists_bool]))
  refine CallS.pu (lawake_ok) ?_
  (try (simp (implicitDefEqProofs := false) [-Bool.exists_bool]; try simp (disch := omega) only [w64, wu64]))
  repeat (first | refine AW.seq ?_ | refine AW.block ?_ | (refine AW.reg mix ?_; simp (implicitDefEqProofs := false) [-Bool.exists_bool]; try simp (disch := omega) only [w64, wu64]) | (refine need.of (by first | omega | kernel_rfl) ?_) | (refine AW.fin ?_; try simp (implicitDefEqProofs := false) [-Bool.exists_bool]))
  refine AW.cond rfl (fun h => ?_) (fun h => ?_)
  · simp at h
  clear h
  simp only [tsD] at hs1 hs2
  repeat (first | refine AW.seq ?_ | refine AW.block ?_ | (refine AW.reg mix ?_; simp (implicitDefEqProofs := false) [-Bool.exists_bool]; try simp (disch := omega) only [w64, wu64]) | (refine need.of (by first | omega | kernel_rfl) ?_) | (refine AW.fin ?_; try simp (implicitDefEqProofs := false) [-Bool.exists_bool]))
  refine CallS.pu (hs1) ?_
  (try (simp (implicitDefEqProofs := false) [-Bool.exists_bool]; try simp (disch := omega) only [w64, wu64]))
  repeat (first | refine AW.seq ?_ | refine AW.block ?_ | (refine AW.reg mix ?_; simp (implicitDefEqProofs := false) [-Bool.exists_bool]; try simp (disch := omega) only [w64, wu64]) | (refine need.of (by first | omega | kernel_rfl) ?_) | (refine AW.fin ?_; try simp (implicitDefEqProofs := false) [-Bool.exists_bool]))
  refine CallS.pu (hs2) ?_
  (try (simp (implicitDefEqProofs := false) [-Bool.exists_bool]; try simp (disch := omega) only [w64, wu64]))
  repeat (first | refine AW.seq ?_ | refine AW.block ?_ | (refine AW.reg mix ?_; simp (implicitDefEqProofs := false) [-Bool.exists_bool]; try simp (disch := omega) only [w64, wu64]) | (refine need.of (by first | omega | kernel_rfl) ?_) | (refine AW.fin ?_; try simp (implicitDefEqProofs := false) [-Bool.exists_bool]))
  refine CallS.pu (hfew) ?_
  (try (simp (implicitDefEqProofs := false) [BL, hN, -Bool.exists_bool]; try simp (disch := omega) only [w64, wu64]))
  repeat (first | refine AW.seq ?_ | refine AW.block ?_ | (refine AW.reg mix ?_; simp (implicitDefEqProofs := false) [BL, hN, -Bool.exists_bool]; try simp (disch := omega) only [w64, wu64]) | (refine need.of (by first | omega | kernel_rfl) ?_) | (refine AW.fin ?_; try simp (implicitDefEqProofs := false) [BL, hN, -Bool.exists_bool]))
  try simp only [hN]
  refine CallS.pu (hown) ?_
  (try (simp (implicitDefEqProofs := false) [hN, -Bool.exists_bool]; try simp (disch := omega) only [w64, wu64]))
  repeat (first | refine AW.seq ?_ | refine AW.block ?_ | (refine AW.reg mix ?_; simp (implicitDefEqProofs := false) [hN, -Bool.exists_bool]; try simp (disch := omega) only [w64, wu64]) | (refine need.of (by first | omega | kernel_rfl) ?_) | (refine AW.fin ?_; try simp (implicitDefEqProofs := false) [hN, -Bool.exists_bool]))
  refine AW.loopT (α := Nat) 7 (fun i => [(51, .d (.int .i64 (i : Nat)))]) (fun i => []) (fun i => i ≤ 2) (fun i => 2 - i) 0 ?_ ?_ (Nat.zero_le _) ?_ ?_ ?_
  · simp
  · simp
  · simp
  · simp
  rintro i hi
  simp
  have hi' : i = 0 ∨ i = 1 ∨ i = 2 := by omega
  rcases hi' with rfl | rfl | rfl
  · repeat (first | refine AW.seq ?_ | refine AW.block ?_ | (refine AW.reg mix ?_; simp (implicitDefEqProofs := false) [-Bool.exists_bool]; try simp (disch := omega) only [w64, wu64]) | (refine need.of (by first | omega | kernel_rfl) ?_) | (refine AW.fin ?_; try simp (implicitDefEqProofs := false) [-Bool.exists_bool]))
    refine AW.cond rfl (fun h => ?_) (fun h => ?_)
    · repeat (first | refine AW.seq ?_ | refine AW.block ?_ | (refine AW.reg mix ?_; simp (implicitDefEqProofs := false) [-Bool.exists_bool]; try simp (disch := omega) only [w64, wu64]) | (refine need.of (by first | omega | kernel_rfl) ?_) | (refine AW.fin ?_; try simp (implicitDefEqProofs := false) [-Bool.exists_bool]))
      refine CallS.n1 (new_ok xs (by omega)) ?_
      (try (simp (implicitDefEqProofs := false) [-Bool.exists_bool]; try simp (disch := omega) only [w64, wu64]))
      repeat (first | refine AW.seq ?_ | refine AW.block ?_ | (refine AW.reg mix ?_; simp (implicitDefEqProofs := false) [-Bool.exists_bool]; try simp (disch := omega) only [w64, wu64]) | (refine need.of (by first | omega | kernel_rfl) ?_) | (refine AW.fin ?_; try simp (implicitDefEqProofs := false) [-Bool.exists_bool]))
      refine CallS.n1 (new_ok xs (by omega)) ?_
      (try (simp (implicitDefEqProofs := false) [-Bool.exists_bool]; try simp (disch := omega) only [w64, wu64]))
      repeat (first | refine AW.seq ?_ | refine AW.block ?_ | (refine AW.reg mix ?_; simp (implicitDefEqProofs := false) [-Bool.exists_bool]; try simp (disch := omega) only [w64, wu64]) | (refine need.of (by first | omega | kernel_rfl) ?_) | (refine AW.fin ?_; try simp (implicitDefEqProofs := false) [-Bool.exists_bool]))
      obtain ⟨R, hR⟩ : ∃ R, R = addRM xs K A B n Y T F 0 false := ⟨_, rfl⟩
      have h1 := hadd R hR
      have h2 := hthe false R hR
      have hww := addRM_well (cs := xs) (n := n) (y := Y) (t := T) (f := F) (p := 0) (d := false) hg hw (Nat.zero_le _) (by omega)
      rw [← hR] at hww
      obtain ⟨Y1, T1, F1, hS, hw1, hne, -⟩ := stR_get R hw hww.2
      have h3 := hwell Y1 T1 F1 hw1
      rw [hS] at h1 h2
      clear hR hww hS
      obtain ⟨e, ry, rt, rf, rp, rd⟩ := R
      simp only [tsD] at h1 h2 h3 hne
      try simp at hst1
      refine AW.cond rfl (fun h => ?_) (fun h => ?_)
      · simp at h
      repeat (first | refine AW.seq ?_ | refine AW.block ?_ | (refine AW.reg mix ?_; simp (implicitDefEqProofs := false) [-Bool.exists_bool]; try simp (disch := omega) only [w64, wu64]) | (refine need.of (by first | omega | kernel_rfl) ?_) | (refine AW.fin ?_; try simp (implicitDefEqProofs := false) [-Bool.exists_bool]))
      refine CallS.pu (hst1) ?_
      (try (simp (implicitDefEqProofs := false) [-Bool.exists_bool]; try simp (disch := omega) only [w64, wu64]))
      repeat (first | refine AW.seq ?_ | refine AW.block ?_ | (refine AW.reg mix ?_; simp (implicitDefEqProofs := false) [-Bool.exists_bool]; try simp (disch := omega) only [w64, wu64]) | (refine need.of (by first | omega | kernel_rfl) ?_) | (refine AW.fin ?_; try simp (implicitDefEqProofs := false) [-Bool.exists_bool]))
      refine CallS.o1 7 (h1) ?_
      (try (simp (implicitDefEqProofs := false) [-Bool.exists_bool]; try simp (disch := omega) only [w64, wu64]))
      repeat (first | refine AW.seq ?_ | refine AW.block ?_ | (refine AW.reg mix ?_; simp (implicitDefEqProofs := false) [-Bool.exists_bool]; try simp (disch := omega) only [w64, wu64]) | (refine need.of (by first | omega | kernel_rfl) ?_) | (refine AW.fin ?_; try simp (implicitDefEqProofs := false) [-Bool.exists_bool]))
      refine CallS.o1 8 (h2) ?_
      (try (simp (implicitDefEqProofs := false) [-Bool.exists_bool]; try simp (disch := omega) only [w64, wu64]))
      repeat (first | refine AW.seq ?_ | refine AW.block ?_ | (refine AW.reg mix ?_; simp (implicitDefEqProofs := false) [-Bool.exists_bool]; try simp (disch := omega) only [w64, wu64]) | (refine need.of (by first | omega | kernel_rfl) ?_) | (refine AW.fin ?_; try simp (implicitDefEqProofs := false) [-Bool.exists_bool]))
      have ew : IntKind.i64.wrap 1 = 1 := w64 (by omega) (by omega)
      by_cases he : e = 0
      · subst he
        refine CallS.o1 7 (read_ok xs rp rd) ?_
        (try (simp (implicitDefEqProofs := false) [-Bool.exists_bool]; try simp (disch := omega) only [w64, wu64]))
        repeat (first | refine AW.seq ?_ | refine AW.block ?_ | (refine AW.reg mix ?_; simp (implicitDefEqProofs := false) [-Bool.exists_bool]; try simp (disch := omega) only [w64, wu64]) | (refine need.of (by first | omega | kernel_rfl) ?_) | (refine AW.fin ?_; try simp (implicitDefEqProofs := false) [-Bool.exists_bool]))
        refine CallS.o1 8 (read_ok xs rp rd) ?_
        (try (simp (implicitDefEqProofs := false) [-Bool.exists_bool]; try simp (disch := omega) only [w64, wu64]))
        repeat (first | refine AW.seq ?_ | refine AW.block ?_ | (refine AW.reg mix ?_; simp (implicitDefEqProofs := false) [-Bool.exists_bool]; try simp (disch := omega) only [w64, wu64]) | (refine need.of (by first | omega | kernel_rfl) ?_) | (refine AW.fin ?_; try simp (implicitDefEqProofs := false) [-Bool.exists_bool]))
        refine CallS.pu (h3) ?_
        (try (simp (implicitDefEqProofs := false) [-Bool.exists_bool]; try simp (disch := omega) only [w64, wu64]))
        repeat (first | refine AW.seq ?_ | refine AW.block ?_ | (refine AW.reg mix ?_; simp (implicitDefEqProofs := false) [-Bool.exists_bool]; try simp (disch := omega) only [w64, wu64]) | (refine need.of (by first | omega | kernel_rfl) ?_) | (refine AW.fin ?_; try simp (implicitDefEqProofs := false) [-Bool.exists_bool]))
        refine AW.cond rfl (fun h => ?_) (fun h => ?_)
        · simp at h
        repeat (first | refine AW.seq ?_ | refine AW.block ?_ | (refine AW.reg mix ?_; simp (implicitDefEqProofs := false) [ew, -Bool.exists_bool]; try simp (disch := omega) only [w64, wu64]) | (refine need.of (by first | omega | kernel_rfl) ?_) | (refine AW.fin ?_; try simp (implicitDefEqProofs := false) [ew, -Bool.exists_bool]))
        exact ⟨1, by omega, by omega, by simp⟩
      · obtain ⟨rfl, rfl, rfl⟩ := hne he
        refine CallS.o1 7 (read_ok xs rp rd) ?_
        (try (simp (implicitDefEqProofs := false) [he, -Bool.exists_bool]; try simp (disch := omega) only [w64, wu64]))
        repeat (first | refine AW.seq ?_ | refine AW.block ?_ | (refine AW.reg mix ?_; simp (implicitDefEqProofs := false) [he, -Bool.exists_bool]; try simp (disch := omega) only [w64, wu64]) | (refine need.of (by first | omega | kernel_rfl) ?_) | (refine AW.fin ?_; try simp (implicitDefEqProofs := false) [he, -Bool.exists_bool]))
        refine CallS.o1 8 (read_ok xs rp rd) ?_
        (try (simp (implicitDefEqProofs := false) [he, -Bool.exists_bool]; try simp (disch := omega) only [w64, wu64]))
        repeat (first | refine AW.seq ?_ | refine AW.block ?_ | (refine AW.reg mix ?_; simp (implicitDefEqProofs := false) [he, -Bool.exists_bool]; try simp (disch := omega) only [w64, wu64]) | (refine need.of (by first | omega | kernel_rfl) ?_) | (refine AW.fin ?_; try simp (implicitDefEqProofs := false) [he, -Bool.exists_bool]))
        refine CallS.pu (h3) ?_
        (try (simp (implicitDefEqProofs := false) [he, -Bool.exists_bool]; try simp (disch := omega) only [w64, wu64]))
        repeat (first | refine AW.seq ?_ | refine AW.block ?_ | (refine AW.reg mix ?_; simp (implicitDefEqProofs := false) [he, -Bool.exists_bool]; try simp (disch := omega) only [w64, wu64]) | (refine need.of (by first | omega | kernel_rfl) ?_) | (refine AW.fin ?_; try simp (implicitDefEqProofs := false) [he, -Bool.exists_bool]))
        refine CallS.pu (hst1) ?_
        (try (simp (implicitDefEqProofs := false) [he, -Bool.exists_bool]; try simp (disch := omega) only [w64, wu64]))
        repeat (first | refine AW.seq ?_ | refine AW.block ?_ | (refine AW.reg mix ?_; simp (implicitDefEqProofs := false) [he, -Bool.exists_bool]; try simp (disch := omega) only [w64, wu64]) | (refine need.of (by first | omega | kernel_rfl) ?_) | (refine AW.fin ?_; try simp (implicitDefEqProofs := false) [he, -Bool.exists_bool]))
        refine AW.cond rfl (fun h => ?_) (fun h => ?_)
        · simp at h
        repeat (first | refine AW.seq ?_ | refine AW.block ?_ | (refine AW.reg mix ?_; simp (implicitDefEqProofs := false) [ew, -Bool.exists_bool]; try simp (disch := omega) only [w64, wu64]) | (refine need.of (by first | omega | kernel_rfl) ?_) | (refine AW.fin ?_; try simp (implicitDefEqProofs := false) [ew, -Bool.exists_bool]))
        exact ⟨1, by omega, by omega, by simp⟩
    · simp at h
  · repeat (first | refine AW.seq ?_ | refine AW.block ?_ | (refine AW.reg mix ?_; simp (implicitDefEqProofs := false) [-Bool.exists_bool]; try simp (disch := omega) only [w64, wu64]) | (refine need.of (by first | omega | kernel_rfl) ?_) | (refine AW.fin ?_; try simp (implicitDefEqProofs := false) [-Bool.exists_bool]))
    refine AW.cond rfl (fun h => ?_) (fun h => ?_)
    · repeat (first | refine AW.seq ?_ | refine AW.block ?_ | (refine AW.reg mix ?_; simp (implicitDefEqProofs := false) [-Bool.exists_bool]; try simp (disch := omega) only [w64, wu64]) | (refine need.of (by first | omega | kernel_rfl) ?_) | (refine AW.fin ?_; try simp (implicitDefEqProofs := false) [-Bool.exists_bool]))
      refine CallS.n1 (new_ok xs (by omega)) ?_
      (try (simp (implicitDefEqProofs := false) [-Bool.exists_bool]; try simp (disch := omega) only [w64, wu64]))
      repeat (first | refine AW.seq ?_ | refine AW.block ?_ | (refine AW.reg mix ?_; simp (implicitDefEqProofs := false) [-Bool.exists_bool]; try simp (disch := omega) only [w64, wu64]) | (refine need.of (by first | omega | kernel_rfl) ?_) | (refine AW.fin ?_; try simp (implicitDefEqProofs := false) [-Bool.exists_bool]))
      refine CallS.n1 (new_ok xs (by omega)) ?_
      (try (simp (implicitDefEqProofs := false) [-Bool.exists_bool]; try simp (disch := omega) only [w64, wu64]))
      repeat (first | refine AW.seq ?_ | refine AW.block ?_ | (refine AW.reg mix ?_; simp (implicitDefEqProofs := false) [-Bool.exists_bool]; try simp (disch := omega) only [w64, wu64]) | (refine need.of (by first | omega | kernel_rfl) ?_) | (refine AW.fin ?_; try simp (implicitDefEqProofs := false) [-Bool.exists_bool]))
      obtain ⟨R, hR⟩ : ∃ R, R = mergeRM xs K A B Y T F Z U G 0 false := ⟨_, rfl⟩
      have h1 := hmer R hR
      have h2 := hthe true R hR
      have hww := mergeRM_well (cs := xs) (y := Y) (t := T) (f := F) (z := Z) (u := U) (g := G) (p := 0) (d := false) hg hw hv (Nat.zero_le _)
      rw [← hR] at hww
      obtain ⟨Y1, T1, F1, hS, hw1, hne, -⟩ := stR_get R hw hww.2
      have h3 := hwell Y1 T1 F1 hw1
      rw [hS] at h1 h2
      clear hR hww hS
      obtain ⟨e, ry, rt, rf, rp, rd⟩ := R
      simp only [tsD] at h1 h2 h3 hne
      try simp at hst1 hst2
      refine AW.cond rfl (fun h => ?_) (fun h => absurd h (by simp))
      repeat (first | refine AW.seq ?_ | refine AW.block ?_ | (refine AW.reg mix ?_; simp (implicitDefEqProofs := false) [-Bool.exists_bool]; try simp (disch := omega) only [w64, wu64]) | (refine need.of (by first | omega | kernel_rfl) ?_) | (refine AW.fin ?_; try simp (implicitDefEqProofs := false) [-Bool.exists_bool]))
      refine CallS.pu (hst1) ?_
      (try (simp (implicitDefEqProofs := false) [-Bool.exists_bool]; try simp (disch := omega) only [w64, wu64]))
      repeat (first | refine AW.seq ?_ | refine AW.block ?_ | (refine AW.reg mix ?_; simp (implicitDefEqProofs := false) [-Bool.exists_bool]; try simp (disch := omega) only [w64, wu64]) | (refine need.of (by first | omega | kernel_rfl) ?_) | (refine AW.fin ?_; try simp (implicitDefEqProofs := false) [-Bool.exists_bool]))
      refine CallS.pu (hst2) ?_
      (try (simp (implicitDefEqProofs := false) [-Bool.exists_bool]; try simp (disch := omega) only [w64, wu64]))
      repeat (first | refine AW.seq ?_ | refine AW.block ?_ | (refine AW.reg mix ?_; simp (implicitDefEqProofs := false) [-Bool.exists_bool]; try simp (disch := omega) only [w64, wu64]) | (refine need.of (by first | omega | kernel_rfl) ?_) | (refine AW.fin ?_; try simp (implicitDefEqProofs := false) [-Bool.exists_bool]))
      refine CallS.o1 7 (h1) ?_
      (try (simp (implicitDefEqProofs := false) [-Bool.exists_bool]; try simp (disch := omega) only [w64, wu64]))
      repeat (first | refine AW.seq ?_ | refine AW.block ?_ | (refine AW.reg mix ?_; simp (implicitDefEqProofs := false) [-Bool.exists_bool]; try simp (disch := omega) only [w64, wu64]) | (refine need.of (by first | omega | kernel_rfl) ?_) | (refine AW.fin ?_; try simp (implicitDefEqProofs := false) [-Bool.exists_bool]))
      refine CallS.o1 8 (h2) ?_
      (try (simp (implicitDefEqProofs := false) [-Bool.exists_bool]; try simp (disch := omega) only [w64, wu64]))
      repeat (first | refine AW.seq ?_ | refine AW.block ?_ | (refine AW.reg mix ?_; simp (implicitDefEqProofs := false) [-Bool.exists_bool]; try simp (disch := omega) only [w64, wu64]) | (refine need.of (by first | omega | kernel_rfl) ?_) | (refine AW.fin ?_; try simp (implicitDefEqProofs := false) [-Bool.exists_bool]))
      have ew : IntKind.i64.wrap 2 = 2 := w64 (by omega) (by omega)
      by_cases he : e = 0
      · subst he
        refine CallS.o1 7 (read_ok xs rp rd) ?_
        (try (simp (implicitDefEqProofs := false) [-Bool.exists_bool]; try simp (disch := omega) only [w64, wu64]))
        repeat (first | refine AW.seq ?_ | refine AW.block ?_ | (refine AW.reg mix ?_; simp (implicitDefEqProofs := false) [-Bool.exists_bool]; try simp (disch := omega) only [w64, wu64]) | (refine need.of (by first | omega | kernel_rfl) ?_) | (refine AW.fin ?_; try simp (implicitDefEqProofs := false) [-Bool.exists_bool]))
        refine CallS.o1 8 (read_ok xs rp rd) ?_
        (try (simp (implicitDefEqProofs := false) [-Bool.exists_bool]; try simp (disch := omega) only [w64, wu64]))
        repeat (first | refine AW.seq ?_ | refine AW.block ?_ | (refine AW.reg mix ?_; simp (implicitDefEqProofs := false) [-Bool.exists_bool]; try simp (disch := omega) only [w64, wu64]) | (refine need.of (by first | omega | kernel_rfl) ?_) | (refine AW.fin ?_; try simp (implicitDefEqProofs := false) [-Bool.exists_bool]))
        refine CallS.pu (h3) ?_
        (try (simp (implicitDefEqProofs := false) [-Bool.exists_bool]; try simp (disch := omega) only [w64, wu64]))
        repeat (first | refine AW.seq ?_ | refine AW.block ?_ | (refine AW.reg mix ?_; simp (implicitDefEqProofs := false) [-Bool.exists_bool]; try simp (disch := omega) only [w64, wu64]) | (refine need.of (by first | omega | kernel_rfl) ?_) | (refine AW.fin ?_; try simp (implicitDefEqProofs := false) [-Bool.exists_bool]))
        refine AW.cond rfl (fun h => ?_) (fun h => ?_)
        · simp at h
        repeat (first | refine AW.seq ?_ | refine AW.block ?_ | (refine AW.reg mix ?_; simp (implicitDefEqProofs := false) [ew, -Bool.exists_bool]; try simp (disch := omega) only [w64, wu64]) | (refine need.of (by first | omega | kernel_rfl) ?_) | (refine AW.fin ?_; try simp (implicitDefEqProofs := false) [ew, -Bool.exists_bool]))
        exact ⟨2, by omega, by omega, by simp⟩
      · obtain ⟨rfl, rfl, rfl⟩ := hne he
        refine CallS.o1 7 (read_ok xs rp rd) ?_
        (try (simp (implicitDefEqProofs := false) [he, -Bool.exists_bool]; try simp (disch := omega) only [w64, wu64]))
        repeat (first | refine AW.seq ?_ | refine AW.block ?_ | (refine AW.reg mix ?_; simp (implicitDefEqProofs := false) [he, -Bool.exists_bool]; try simp (disch := omega) only [w64, wu64]) | (refine need.of (by first | omega | kernel_rfl) ?_) | (refine AW.fin ?_; try simp (implicitDefEqProofs := false) [he, -Bool.exists_bool]))
        refine CallS.o1 8 (read_ok xs rp rd) ?_
        (try (simp (implicitDefEqProofs := false) [he, -Bool.exists_bool]; try simp (disch := omega) only [w64, wu64]))
        repeat (first | refine AW.seq ?_ | refine AW.block ?_ | (refine AW.reg mix ?_; simp (implicitDefEqProofs := false) [he, -Bool.exists_bool]; try simp (disch := omega) only [w64, wu64]) | (refine need.of (by first | omega | kernel_rfl) ?_) | (refine AW.fin ?_; try simp (implicitDefEqProofs := false) [he, -Bool.exists_bool]))
        refine CallS.pu (h3) ?_
        (try (simp (implicitDefEqProofs := false) [he, -Bool.exists_bool]; try simp (disch := omega) only [w64, wu64]))
        repeat (first | refine AW.seq ?_ | refine AW.block ?_ | (refine AW.reg mix ?_; simp (implicitDefEqProofs := false) [he, -Bool.exists_bool]; try simp (disch := omega) only [w64, wu64]) | (refine need.of (by first | omega | kernel_rfl) ?_) | (refine AW.fin ?_; try simp (implicitDefEqProofs := false) [he, -Bool.exists_bool]))
        refine CallS.pu (hst1) ?_
        (try (simp (implicitDefEqProofs := false) [he, -Bool.exists_bool]; try simp (disch := omega) only [w64, wu64]))
        repeat (first | refine AW.seq ?_ | refine AW.block ?_ | (refine AW.reg mix ?_; simp (implicitDefEqProofs := false) [he, -Bool.exists_bool]; try simp (disch := omega) only [w64, wu64]) | (refine need.of (by first | omega | kernel_rfl) ?_) | (refine AW.fin ?_; try simp (implicitDefEqProofs := false) [he, -Bool.exists_bool]))
        refine AW.cond rfl (fun h => ?_) (fun h => ?_)
        · simp at h
        repeat (first | refine AW.seq ?_ | refine AW.block ?_ | (refine AW.reg mix ?_; simp (implicitDefEqProofs := false) [ew, -Bool.exists_bool]; try simp (disch := omega) only [w64, wu64]) | (refine need.of (by first | omega | kernel_rfl) ?_) | (refine AW.fin ?_; try simp (implicitDefEqProofs := false) [ew, -Bool.exists_bool]))
        exact ⟨2, by omega, by omega, by simp⟩
    · simp at h
  · repeat (first | refine AW.seq ?_ | refine AW.block ?_ | (refine AW.reg mix ?_; simp (implicitDefEqProofs := false) [-Bool.exists_bool]; try simp (disch := omega) only [w64, wu64]) | (refine need.of (by first | omega | kernel_rfl) ?_) | (refine AW.fin ?_; try simp (implicitDefEqProofs := false) [-Bool.exists_bool]))
    refine AW.cond rfl (fun h => ?_) (fun h => ?_)
    · simp at h
    refine AW.exit ?_
    (try (simp (implicitDefEqProofs := false) [-Bool.exists_bool]; try simp (disch := omega) only [w64, wu64]))
    obtain ⟨R, hR⟩ : ∃ R, R = addRM xs K A B 1 Y T F 0 false := ⟨_, rfl⟩
    have h1 := radd_ok xs K A B Y T F 1 0 false hg hw (by omega) (Nat.zero_le _) (by omega) R hR
    have h2 := rinc_ok xs K A B Y T F 0 false hg hw (Nat.zero_le _) (by omega) R hR
    have hww := addRM_well (cs := xs) (n := 1) (y := Y) (t := T) (f := F) (p := 0) (d := false) hg hw (Nat.zero_le _) (by omega)
    rw [← hR] at hww
    obtain ⟨Y1, T1, F1, hS, hw1, hne, -⟩ := stR_get R hw hww.2
    rw [hS] at h1 h2
    clear hR hww hS
    obtain ⟨e, ry, rt, rf, rp, rd⟩ := R
    simp only [tsD, parD] at h1 h2
    try simp at h1
    repeat (first | refine AW.seq ?_ | refine AW.block ?_ | (refine AW.reg mix ?_; simp (implicitDefEqProofs := false) [-Bool.exists_bool]; try simp (disch := omega) only [w64, wu64]) | (refine need.of (by first | omega | kernel_rfl) ?_) | (refine AW.fin ?_; try simp (implicitDefEqProofs := false) [-Bool.exists_bool]))
    refine CallS.n1 (new_ok xs (by omega)) ?_
    (try (simp (implicitDefEqProofs := false) [-Bool.exists_bool]; try simp (disch := omega) only [w64, wu64]))
    repeat (first | refine AW.seq ?_ | refine AW.block ?_ | (refine AW.reg mix ?_; simp (implicitDefEqProofs := false) [-Bool.exists_bool]; try simp (disch := omega) only [w64, wu64]) | (refine need.of (by first | omega | kernel_rfl) ?_) | (refine AW.fin ?_; try simp (implicitDefEqProofs := false) [-Bool.exists_bool]))
    refine CallS.n1 (new_ok xs (by omega)) ?_
    (try (simp (implicitDefEqProofs := false) [-Bool.exists_bool]; try simp (disch := omega) only [w64, wu64]))
    repeat (first | refine AW.seq ?_ | refine AW.block ?_ | (refine AW.reg mix ?_; simp (implicitDefEqProofs := false) [-Bool.exists_bool]; try simp (disch := omega) only [w64, wu64]) | (refine need.of (by first | omega | kernel_rfl) ?_) | (refine AW.fin ?_; try simp (implicitDefEqProofs := false) [-Bool.exists_bool]))
    refine CallS.pu (hst1) ?_
    (try (simp (implicitDefEqProofs := false) [-Bool.exists_bool]; try simp (disch := omega) only [w64, wu64]))
    repeat (first | refine AW.seq ?_ | refine AW.block ?_ | (refine AW.reg mix ?_; simp (implicitDefEqProofs := false) [-Bool.exists_bool]; try simp (disch := omega) only [w64, wu64]) | (refine need.of (by first | omega | kernel_rfl) ?_) | (refine AW.fin ?_; try simp (implicitDefEqProofs := false) [-Bool.exists_bool]))
    refine CallS.o1 7 (h2) ?_
    (try (simp (implicitDefEqProofs := false) [-Bool.exists_bool]; try simp (disch := omega) only [w64, wu64]))
    repeat (first | refine AW.seq ?_ | refine AW.block ?_ | (refine AW.reg mix ?_; simp (implicitDefEqProofs := false) [-Bool.exists_bool]; try simp (disch := omega) only [w64, wu64]) | (refine need.of (by first | omega | kernel_rfl) ?_) | (refine AW.fin ?_; try simp (implicitDefEqProofs := false) [-Bool.exists_bool]))
    refine CallS.pu (hst1) ?_
    (try (simp (implicitDefEqProofs := false) [-Bool.exists_bool]; try simp (disch := omega) only [w64, wu64]))
    repeat (first | refine AW.seq ?_ | refine AW.block ?_ | (refine AW.reg mix ?_; simp (implicitDefEqProofs := false) [-Bool.exists_bool]; try simp (disch := omega) only [w64, wu64]) | (refine need.of (by first | omega | kernel_rfl) ?_) | (refine AW.fin ?_; try simp (implicitDefEqProofs := false) [-Bool.exists_bool]))
    refine CallS.o1 8 (h1) ?_
    (try (simp (implicitDefEqProofs := false) [-Bool.exists_bool]; try simp (disch := omega) only [w64, wu64]))
    repeat (first | refine AW.seq ?_ | refine AW.block ?_ | (refine AW.reg mix ?_; simp (implicitDefEqProofs := false) [-Bool.exists_bool]; try simp (disch := omega) only [w64, wu64]) | (refine need.of (by first | omega | kernel_rfl) ?_) | (refine AW.fin ?_; try simp (implicitDefEqProofs := false) [-Bool.exists_bool]))
end
end Go.Proofs.YtakjegcjeffmgaaGreat.Am
namespace Go.Proofs.YtakjegcjeffmgaaGreat.Am
section
open Go.RowKit
set_option maxRecDepth 100000
set_option linter.unusedSimpArgs false
set_option linter.unusedVariables false
end
end Go.Proofs.YtakjegcjeffmgaaGreat.Am
namespace Go.Proofs.YtakjegcjeffmgaaGreat.Am
section
open Go.RowKit

theorem reps_ints {I : Nat → Prop} {w : World} : ∀ l : List Int, D.reps I w (l.map (D.int .i64)) (l.map (Value.int .i64))
  | [] => D.reps_nil.2 rfl
  | _ :: l => D.reps_cons.2 ⟨D.rep_int.2 rfl, reps_ints l⟩
theorem rep_ints {W : World} (l : List Int) : V.rep (memW W) (.d (.agg (l.map (D.int .i64)))) (.agg (l.map (Value.int .i64)).toArray) :=
  rep_agg (fun u hu => by obtain ⟨n, -, rfl⟩ := List.mem_map.1 hu; rfl) (reps_ints l)
end
end Go.Proofs.YtakjegcjeffmgaaGreat.Am
namespace Go.Proofs.YtakjegcjeffmgaaGreat.Am
section
open Go.RowKit

theorem rp_walk {W : World} {v : Value} {cs : List Bool} (w1 : Bools W v cs) {k a b y t z u : Int} {f g : Bool} : Calls Tryz.prog n_Tlaw17_RegPlays #[.agg #[.int .i64 k, .int .i64 a, .int .i64 b], .agg #[.int .i64 y, .int .i64 t, .bool f, .int .i64 z, .int .i64 u, .bool g], v] W (fun e W' => e = .returned (.bool true) ∧ Same W W') :=
  law_walk r_Tlaw17_RegPlays (regPlays_ok cs k a b y t z u f g (by have := bools_len w1; unfold maxLen at this; omega))
    (V.reps_cons.2 ⟨rep_ints [k, a, b], V.reps_cons.2 ⟨rep_agg (by simp [Value.oneCell']) (by simp [D.reps_cons, D.rep_int, D.rep_bool]), V.reps_cons.2 ⟨rep_bools w1, V.reps_nil.2 rfl⟩⟩⟩)
end
end Go.Proofs.YtakjegcjeffmgaaGreat.Am
