import Derived.Test.YtakjegcjeffmgaaChain6
import Derived.Test.YtakjegcjeffmgaaChainP
namespace Go.Proofs.Ytakjegcjeffmgaa.Am
open Go.RowKit
set_option maxRecDepth 100000
set_option linter.unusedSimpArgs false
set_option linter.unusedVariables false

/-- a kind's steps are so -/
structure StepOf (cs : List Bool) (ti : TypeId) (d : D) (g : FuncId) (st : StepT) : Prop where
  meth : MethOK Try.prog ti "tallymark/chain.step" g
  run : ∀ (x p : Nat) (dd : Bool), p ≤ cs.length → Eqn Try.prog g [.d d, .p 0 0, .d (.int .i64 x)] [tapeO cs p dd] (.tup [.d (.bool (st x p dd).1), .d (.int .i64 (st x p dd).2.1)]) [tapeO cs (st x p dd).2.2.1 (st x p dd).2.2.2]
  le : ∀ (x p : Nat) (dd : Bool), p ≤ cs.length → (st x p dd).2.2.1 ≤ cs.length

theorem add_start (cs : List Bool) (k a : Int) (w : Nat) (w2 : w ≤ 10) (ti : TypeId) (d : D) (g : FuncId) (st : StepT) (hst : StepOf cs ti d g st) (hk : kindD k a = .ifc ti d) (hc : Eqn Try.prog n_chain_Param_Check [.d (parD k a w)] [] (.d (.int .i64 0)) [])
    (x : Nat) (hx : x ≤ 2 ^ w - 1) (f : Bool) (n : Nat) (hn : n ≤ 1048576) (p : Nat) (dd : Bool) (hp : p ≤ cs.length) (S : Int × Nat × Bool × Nat × Bool) (hS : S = addL st (2 ^ w - 1) n x f p dd) :
    Eqn Try.prog n_chain_Param_Add [.d (parD k a w), .p 0 0, .d (.agg [.int .i64 x, .bool f]), .d (.int .i64 n)] [tapeO cs p dd] (.tup [.d (.agg [.int .i64 (if S.1 = 0 then S.2.1 else x : Nat), .bool (if S.1 = 0 then S.2.2.1 else f)]), .d (.int .i64 S.1)]) [tapeO cs S.2.2.2.1 S.2.2.2.2] := by
  refine Eqn.obj1 r_chain_Param_Add (plain_tup2 _ _) ⟨rfl, fun _ => rfl⟩ ?_
  have hat := at_ok1 k a w w2 x (by omega) (by omega) hc
  have hkd := kind_ok k a w
  rw [hk] at hkd
  simp only [c_chain_Param_Add, parD] at hat ⊢
  repeat (first | refine AW.seq ?_ | refine AW.block ?_ | (refine AW.reg mix ?_; (simp (implicitDefEqProofs := false) [↓callI, vopsN, vopsG, ↓step_slice, ↓Am.A.step, ↓binInt, ↓binStr, vopsE0, vopsE1, -vops, -Bool.exists_bool]; try simp (disch := omega) only [w64, wu64])) | (refine need.of (by first | omega | kernel_rfl) ?_) | (refine AW.skip ?_; (try simp (implicitDefEqProofs := false) [↓callI, vopsN, vopsG, ↓step_slice, ↓Am.A.step, ↓binInt, ↓binStr, vopsE0, vopsE1, -vops, -Bool.exists_bool])) | (refine AW.ret ?_; (try simp (implicitDefEqProofs := false) [↓callI, vopsN, vopsG, ↓step_slice, ↓Am.A.step, ↓binInt, ↓binStr, vopsE0, vopsE1, -vops, -Bool.exists_bool])) | (refine AW.exit ?_; (try simp (implicitDefEqProofs := false) [↓callI, vopsN, vopsG, ↓step_slice, ↓Am.A.step, ↓binInt, ↓binStr, vopsE0, vopsE1, -vops, -Bool.exists_bool])))
  refine CallS.pureF 5 1 ⟨3, _⟩ [.int .i64 x] (hat) (by first | exact plain_d _ | exact plain_tup2 _ _ | exact plain_tup3 _ _ _) rfl (fun _ => rfl) (by rfl) (by simp) (Subs.of ?_) ?_
  focus first | rfl | (simp [-Bool.exists_bool]; done) | skip
  rotate_left
  (try simp (implicitDefEqProofs := false) [↓callI, vopsN, vopsG, ↓step_slice, ↓Am.A.step, ↓binInt, ↓binStr, vopsE0, vopsE1, -vops, -Bool.exists_bool]; try simp (disch := omega) only [w64, wu64])
  repeat (first | refine AW.seq ?_ | refine AW.block ?_ | (refine AW.reg mix ?_; (simp (implicitDefEqProofs := false) [↓callI, vopsN, vopsG, ↓step_slice, ↓Am.A.step, ↓binInt, ↓binStr, vopsE0, vopsE1, -vops, -Bool.exists_bool]; try simp (disch := omega) only [w64, wu64])) | (refine need.of (by first | omega | kernel_rfl) ?_) | (refine AW.skip ?_; (try simp (implicitDefEqProofs := false) [↓callI, vopsN, vopsG, ↓step_slice, ↓Am.A.step, ↓binInt, ↓binStr, vopsE0, vopsE1, -vops, -Bool.exists_bool])) | (refine AW.ret ?_; (try simp (implicitDefEqProofs := false) [↓callI, vopsN, vopsG, ↓step_slice, ↓Am.A.step, ↓binInt, ↓binStr, vopsE0, vopsE1, -vops, -Bool.exists_bool])) | (refine AW.exit ?_; (try simp (implicitDefEqProofs := false) [↓callI, vopsN, vopsG, ↓step_slice, ↓Am.A.step, ↓binInt, ↓binStr, vopsE0, vopsE1, -vops, -Bool.exists_bool])))
  refine AW.cond rfl (fun h => ?_) (fun h => ?_)
  · simp at h
  clear h
  have g1 : ¬ (1048576 : Int) < n := by omega
  repeat (first | refine AW.seq ?_ | refine AW.block ?_ | (refine AW.reg mix ?_; (simp (implicitDefEqProofs := false) [↓callI, vopsN, vopsG, ↓step_slice, ↓Am.A.step, ↓binInt, ↓binStr, vopsE0, vopsE1, -vops, g1, -Bool.exists_bool]; try simp (disch := omega) only [w64, wu64])) | (refine need.of (by first | omega | kernel_rfl) ?_) | (refine AW.skip ?_; (try simp (implicitDefEqProofs := false) [↓callI, vopsN, vopsG, ↓step_slice, ↓Am.A.step, ↓binInt, ↓binStr, vopsE0, vopsE1, -vops, g1, -Bool.exists_bool])) | (refine AW.ret ?_; (try simp (implicitDefEqProofs := false) [↓callI, vopsN, vopsG, ↓step_slice, ↓Am.A.step, ↓binInt, ↓binStr, vopsE0, vopsE1, -vops, g1, -Bool.exists_bool])) | (refine AW.exit ?_; (try simp (implicitDefEqProofs := false) [↓callI, vopsN, vopsG, ↓step_slice, ↓Am.A.step, ↓binInt, ↓binStr, vopsE0, vopsE1, -vops, g1, -Bool.exists_bool])))
  refine AW.cond rfl (fun h => ?_) (fun h => ?_)
  · simp [g1] at h
  clear h
  have hmx : max 0 (n : Int) = n := by omega
  repeat (first | refine AW.seq ?_ | refine AW.block ?_ | (refine AW.reg mix ?_; (simp (implicitDefEqProofs := false) [↓callI, vopsN, vopsG, ↓step_slice, ↓Am.A.step, ↓binInt, ↓binStr, vopsE0, vopsE1, -vops, -Bool.exists_bool]; try simp (disch := omega) only [w64, wu64])) | (refine need.of (by first | omega | kernel_rfl) ?_) | (refine AW.skip ?_; (try simp (implicitDefEqProofs := false) [↓callI, vopsN, vopsG, ↓step_slice, ↓Am.A.step, ↓binInt, ↓binStr, vopsE0, vopsE1, -vops, -Bool.exists_bool])) | (refine AW.ret ?_; (try simp (implicitDefEqProofs := false) [↓callI, vopsN, vopsG, ↓step_slice, ↓Am.A.step, ↓binInt, ↓binStr, vopsE0, vopsE1, -vops, -Bool.exists_bool])) | (refine AW.exit ?_; (try simp (implicitDefEqProofs := false) [↓callI, vopsN, vopsG, ↓step_slice, ↓Am.A.step, ↓binInt, ↓binStr, vopsE0, vopsE1, -vops, -Bool.exists_bool])))
  refine CallS.pure (hkd) (by first | exact plain_d _ | exact plain_tup2 _ _ | exact plain_tup3 _ _ _) rfl (fun _ => rfl) (Subs.refl _) ?_
  (try simp (implicitDefEqProofs := false) [↓callI, vopsN, vopsG, ↓step_slice, ↓Am.A.step, ↓binInt, ↓binStr, vopsE0, vopsE1, -vops, hmx, -Bool.exists_bool]; try simp (disch := omega) only [w64, wu64])
  repeat (first | refine AW.seq ?_ | refine AW.block ?_ | (refine AW.reg mix ?_; (simp (implicitDefEqProofs := false) [↓callI, vopsN, vopsG, ↓step_slice, ↓Am.A.step, ↓binInt, ↓binStr, vopsE0, vopsE1, -vops, hmx, -Bool.exists_bool]; try simp (disch := omega) only [w64, wu64])) | (refine need.of (by first | omega | kernel_rfl) ?_) | (refine AW.skip ?_; (try simp (implicitDefEqProofs := false) [↓callI, vopsN, vopsG, ↓step_slice, ↓Am.A.step, ↓binInt, ↓binStr, vopsE0, vopsE1, -vops, hmx, -Bool.exists_bool])) | (refine AW.ret ?_; (try simp (implicitDefEqProofs := false) [↓callI, vopsN, vopsG, ↓step_slice, ↓Am.A.step, ↓binInt, ↓binStr, vopsE0, vopsE1, -vops, hmx, -Bool.exists_bool])) | (refine AW.exit ?_; (try simp (implicitDefEqProofs := false) [↓callI, vopsN, vopsG, ↓step_slice, ↓Am.A.step, ↓binInt, ↓binStr, vopsE0, vopsE1, -vops, hmx, -Bool.exists_bool])))
  refine AW.loopT (α := Nat × Nat × Nat × Bool) 8 (fun s => [(31, .d (.int .i64 (s.1 : Int)))]) (fun s => [(0, tapeO cs s.2.2.1 s.2.2.2), (7, ⟨75, [.d (.int .i64 (s.2.1 : Nat)), .d (.bool f)]⟩)]) (fun s => s.1 ≤ n ∧ s.2.1 ≤ 2 ^ w - 1 ∧ s.2.2.1 ≤ cs.length ∧ S = addL st (2 ^ w - 1) (n - s.1) s.2.1 f s.2.2.1 s.2.2.2) (fun s => n - s.1) (0, x, p, dd) ?_ ?_ ⟨Nat.zero_le _, hx, hp, hS⟩ ?_ ?_ ?_
  · simp
  · simp
  · simp
  · simp
  rintro ⟨i, z, q, b⟩ ⟨hi, hz, hq, hS⟩
  simp only at hi hz hq hS
  simp [-Bool.exists_bool]
  have htop := top_ok k a w w2 hc
  have ho1 := fun T1 t2 => on_top (T1 := T1) (t2 := t2) (ti := ti) (d := d) (cs := cs) (p := q) (dd := b) k a w w2 f hc
  have ho2 := fun T1 t2 (hlt : z < 2 ^ w - 1) => on_step (T1 := T1) (t2 := t2) k a w w2 f hlt hc hst.meth (hst.run z q b hq)
  have hle := hst.le z q b hq
  have h2 : 2 ^ w - 1 ≤ 1023 := by have := Nat.pow_le_pow_right (n := 2) (by omega) w2; omega
  simp only [parD] at ho1 ho2 htop
  generalize 2 ^ w - 1 = W at *
  by_cases h : i = n
  · subst h
    rw [Nat.sub_self, addL] at hS
    repeat (first | refine AW.seq ?_ | refine AW.block ?_ | (refine AW.reg mix ?_; (simp (implicitDefEqProofs := false) [↓callI, vopsN, vopsG, ↓step_slice, ↓Am.A.step, ↓binInt, ↓binStr, vopsE0, vopsE1, -vops, -Bool.exists_bool]; try simp (disch := omega) only [w64, wu64])) | (refine need.of (by first | omega | kernel_rfl) ?_) | (refine AW.skip ?_; (try simp (implicitDefEqProofs := false) [↓callI, vopsN, vopsG, ↓step_slice, ↓Am.A.step, ↓binInt, ↓binStr, vopsE0, vopsE1, -vops, -Bool.exists_bool])) | (refine AW.ret ?_; (try simp (implicitDefEqProofs := false) [↓callI, vopsN, vopsG, ↓step_slice, ↓Am.A.step, ↓binInt, ↓binStr, vopsE0, vopsE1, -vops, -Bool.exists_bool])) | (refine AW.exit ?_; (try simp (implicitDefEqProofs := false) [↓callI, vopsN, vopsG, ↓step_slice, ↓Am.A.step, ↓binInt, ↓binStr, vopsE0, vopsE1, -vops, -Bool.exists_bool])))
    refine AW.cond rfl (fun h => ?_) (fun h => ?_)
    · simp at h
    refine AW.exit ?_
    (try simp (implicitDefEqProofs := false) [↓callI, vopsN, vopsG, ↓step_slice, ↓Am.A.step, ↓binInt, ↓binStr, vopsE0, vopsE1, -vops, -Bool.exists_bool]; try simp (disch := omega) only [w64, wu64])
    repeat (first | refine AW.seq ?_ | refine AW.block ?_ | (refine AW.reg mix ?_; (simp (implicitDefEqProofs := false) [↓callI, vopsN, vopsG, ↓step_slice, ↓Am.A.step, ↓binInt, ↓binStr, vopsE0, vopsE1, -vops, -Bool.exists_bool]; try simp (disch := omega) only [w64, wu64])) | (refine need.of (by first | omega | kernel_rfl) ?_) | (refine AW.skip ?_; (try simp (implicitDefEqProofs := false) [↓callI, vopsN, vopsG, ↓step_slice, ↓Am.A.step, ↓binInt, ↓binStr, vopsE0, vopsE1, -vops, -Bool.exists_bool])) | (refine AW.ret ?_; (try simp (implicitDefEqProofs := false) [↓callI, vopsN, vopsG, ↓step_slice, ↓Am.A.step, ↓binInt, ↓binStr, vopsE0, vopsE1, -vops, -Bool.exists_bool])) | (refine AW.exit ?_; (try simp (implicitDefEqProofs := false) [↓callI, vopsN, vopsG, ↓step_slice, ↓Am.A.step, ↓binInt, ↓binStr, vopsE0, vopsE1, -vops, -Bool.exists_bool])))
    simp [hS]
  · have hlt : (i : Int) < n := by omega
    have hlt' : i < n := by omega
    obtain ⟨r, hr⟩ : ∃ r, n - i = r + 1 := ⟨n - i - 1, by omega⟩
    have ew : IntKind.i64.wrap ((i : Int) + 1) = (i : Int) + 1 := w64 (by omega) (by omega)
    rw [hr, addL] at hS
    repeat (first | refine AW.seq ?_ | refine AW.block ?_ | (refine AW.reg mix ?_; (simp (implicitDefEqProofs := false) [↓callI, vopsN, vopsG, ↓step_slice, ↓Am.A.step, ↓binInt, ↓binStr, vopsE0, vopsE1, -vops, hlt, hlt', -Bool.exists_bool]; try simp (disch := omega) only [w64, wu64])) | (refine need.of (by first | omega | kernel_rfl) ?_) | (refine AW.skip ?_; (try simp (implicitDefEqProofs := false) [↓callI, vopsN, vopsG, ↓step_slice, ↓Am.A.step, ↓binInt, ↓binStr, vopsE0, vopsE1, -vops, hlt, hlt', -Bool.exists_bool])) | (refine AW.ret ?_; (try simp (implicitDefEqProofs := false) [↓callI, vopsN, vopsG, ↓step_slice, ↓Am.A.step, ↓binInt, ↓binStr, vopsE0, vopsE1, -vops, hlt, hlt', -Bool.exists_bool])) | (refine AW.exit ?_; (try simp (implicitDefEqProofs := false) [↓callI, vopsN, vopsG, ↓step_slice, ↓Am.A.step, ↓binInt, ↓binStr, vopsE0, vopsE1, -vops, hlt, hlt', -Bool.exists_bool])))
    refine AW.cond rfl (fun h => ?_) (fun h => ?_)
    · clear h
      by_cases hzt : z = W
      · subst hzt
        rw [if_pos rfl] at hS
        repeat (first | refine AW.seq ?_ | refine AW.block ?_ | (refine AW.reg mix ?_; (simp (implicitDefEqProofs := false) [↓callI, vopsN, vopsG, ↓step_slice, ↓Am.A.step, ↓binInt, ↓binStr, vopsE0, vopsE1, -vops, -Bool.exists_bool]; try simp (disch := omega) only [w64, wu64])) | (refine need.of (by first | omega | kernel_rfl) ?_) | (refine AW.skip ?_; (try simp (implicitDefEqProofs := false) [↓callI, vopsN, vopsG, ↓step_slice, ↓Am.A.step, ↓binInt, ↓binStr, vopsE0, vopsE1, -vops, -Bool.exists_bool])) | (refine AW.ret ?_; (try simp (implicitDefEqProofs := false) [↓callI, vopsN, vopsG, ↓step_slice, ↓Am.A.step, ↓binInt, ↓binStr, vopsE0, vopsE1, -vops, -Bool.exists_bool])) | (refine AW.exit ?_; (try simp (implicitDefEqProofs := false) [↓callI, vopsN, vopsG, ↓step_slice, ↓Am.A.step, ↓binInt, ↓binStr, vopsE0, vopsE1, -vops, -Bool.exists_bool])))
        refine CallS.obj3 0 6 2 (ho1 _ _) (by first | exact plain_d _ | exact plain_tup2 _ _ | exact plain_tup3 _ _ _) ⟨rfl, fun _ => rfl⟩ ⟨rfl, fun _ => rfl⟩ ⟨rfl, fun _ => rfl⟩ rfl (by rfl) (by rfl) (by rfl) (by decide) (Subs.of (by simp)) ?_
        (try simp (implicitDefEqProofs := false) [↓callI, vopsN, vopsG, ↓step_slice, ↓Am.A.step, ↓binInt, ↓binStr, vopsE0, vopsE1, -vops, -Bool.exists_bool]; try simp (disch := omega) only [w64, wu64])
        repeat (first | refine AW.seq ?_ | refine AW.block ?_ | (refine AW.reg mix ?_; (simp (implicitDefEqProofs := false) [↓callI, vopsN, vopsG, ↓step_slice, ↓Am.A.step, ↓binInt, ↓binStr, vopsE0, vopsE1, -vops, -Bool.exists_bool]; try simp (disch := omega) only [w64, wu64])) | (refine need.of (by first | omega | kernel_rfl) ?_) | (refine AW.skip ?_; (try simp (implicitDefEqProofs := false) [↓callI, vopsN, vopsG, ↓step_slice, ↓Am.A.step, ↓binInt, ↓binStr, vopsE0, vopsE1, -vops, -Bool.exists_bool])) | (refine AW.ret ?_; (try simp (implicitDefEqProofs := false) [↓callI, vopsN, vopsG, ↓step_slice, ↓Am.A.step, ↓binInt, ↓binStr, vopsE0, vopsE1, -vops, -Bool.exists_bool])) | (refine AW.exit ?_; (try simp (implicitDefEqProofs := false) [↓callI, vopsN, vopsG, ↓step_slice, ↓Am.A.step, ↓binInt, ↓binStr, vopsE0, vopsE1, -vops, -Bool.exists_bool])))
        refine AW.cond rfl (fun h => ?_) (fun h => ?_)
        · simp at h
        clear h
        repeat (first | refine AW.seq ?_ | refine AW.block ?_ | (refine AW.reg mix ?_; (simp (implicitDefEqProofs := false) [↓callI, vopsN, vopsG, ↓step_slice, ↓Am.A.step, ↓binInt, ↓binStr, vopsE0, vopsE1, -vops, -Bool.exists_bool]; try simp (disch := omega) only [w64, wu64])) | (refine need.of (by first | omega | kernel_rfl) ?_) | (refine AW.skip ?_; (try simp (implicitDefEqProofs := false) [↓callI, vopsN, vopsG, ↓step_slice, ↓Am.A.step, ↓binInt, ↓binStr, vopsE0, vopsE1, -vops, -Bool.exists_bool])) | (refine AW.ret ?_; (try simp (implicitDefEqProofs := false) [↓callI, vopsN, vopsG, ↓step_slice, ↓Am.A.step, ↓binInt, ↓binStr, vopsE0, vopsE1, -vops, -Bool.exists_bool])) | (refine AW.exit ?_; (try simp (implicitDefEqProofs := false) [↓callI, vopsN, vopsG, ↓step_slice, ↓Am.A.step, ↓binInt, ↓binStr, vopsE0, vopsE1, -vops, -Bool.exists_bool])))
        refine CallS.pure (htop) (by first | exact plain_d _ | exact plain_tup2 _ _ | exact plain_tup3 _ _ _) rfl (fun _ => rfl) (Subs.refl _) ?_
        (try simp (implicitDefEqProofs := false) [↓callI, vopsN, vopsG, ↓step_slice, ↓Am.A.step, ↓binInt, ↓binStr, vopsE0, vopsE1, -vops, -Bool.exists_bool]; try simp (disch := omega) only [w64, wu64])
        repeat (first | refine AW.seq ?_ | refine AW.block ?_ | (refine AW.reg mix ?_; (simp (implicitDefEqProofs := false) [↓callI, vopsN, vopsG, ↓step_slice, ↓Am.A.step, ↓binInt, ↓binStr, vopsE0, vopsE1, -vops, -Bool.exists_bool]; try simp (disch := omega) only [w64, wu64])) | (refine need.of (by first | omega | kernel_rfl) ?_) | (refine AW.skip ?_; (try simp (implicitDefEqProofs := false) [↓callI, vopsN, vopsG, ↓step_slice, ↓Am.A.step, ↓binInt, ↓binStr, vopsE0, vopsE1, -vops, -Bool.exists_bool])) | (refine AW.ret ?_; (try simp (implicitDefEqProofs := false) [↓callI, vopsN, vopsG, ↓step_slice, ↓Am.A.step, ↓binInt, ↓binStr, vopsE0, vopsE1, -vops, -Bool.exists_bool])) | (refine AW.exit ?_; (try simp (implicitDefEqProofs := false) [↓callI, vopsN, vopsG, ↓step_slice, ↓Am.A.step, ↓binInt, ↓binStr, vopsE0, vopsE1, -vops, -Bool.exists_bool])))
        refine AW.cond rfl (fun h => ?_) (fun h => ?_)
        · refine AW.exit ?_
          (try simp (implicitDefEqProofs := false) [↓callI, vopsN, vopsG, ↓step_slice, ↓Am.A.step, ↓binInt, ↓binStr, vopsE0, vopsE1, -vops, -Bool.exists_bool]; try simp (disch := omega) only [w64, wu64])
          repeat (first | refine AW.seq ?_ | refine AW.block ?_ | (refine AW.reg mix ?_; (simp (implicitDefEqProofs := false) [↓callI, vopsN, vopsG, ↓step_slice, ↓Am.A.step, ↓binInt, ↓binStr, vopsE0, vopsE1, -vops, -Bool.exists_bool]; try simp (disch := omega) only [w64, wu64])) | (refine need.of (by first | omega | kernel_rfl) ?_) | (refine AW.skip ?_; (try simp (implicitDefEqProofs := false) [↓callI, vopsN, vopsG, ↓step_slice, ↓Am.A.step, ↓binInt, ↓binStr, vopsE0, vopsE1, -vops, -Bool.exists_bool])) | (refine AW.ret ?_; (try simp (implicitDefEqProofs := false) [↓callI, vopsN, vopsG, ↓step_slice, ↓Am.A.step, ↓binInt, ↓binStr, vopsE0, vopsE1, -vops, -Bool.exists_bool])) | (refine AW.exit ?_; (try simp (implicitDefEqProofs := false) [↓callI, vopsN, vopsG, ↓step_slice, ↓Am.A.step, ↓binInt, ↓binStr, vopsE0, vopsE1, -vops, -Bool.exists_bool])))
          simp [hS]
        · simp at h
      · rw [if_neg hzt] at hS
        have ho2 := fun T1 t2 => ho2 T1 t2 (by omega)
        generalize st z q b = R at *
        obtain ⟨r1, r2, r3, r4⟩ := R
        simp only at hS ho2 hle
        have hz' : (if r1 = true then z + 1 else z) ≤ W := by split <;> omega
        generalize (if r1 = true then z + 1 else z) = z' at *
        repeat (first | refine AW.seq ?_ | refine AW.block ?_ | (refine AW.reg mix ?_; (simp (implicitDefEqProofs := false) [↓callI, vopsN, vopsG, ↓step_slice, ↓Am.A.step, ↓binInt, ↓binStr, vopsE0, vopsE1, -vops, -Bool.exists_bool]; try simp (disch := omega) only [w64, wu64])) | (refine need.of (by first | omega | kernel_rfl) ?_) | (refine AW.skip ?_; (try simp (implicitDefEqProofs := false) [↓callI, vopsN, vopsG, ↓step_slice, ↓Am.A.step, ↓binInt, ↓binStr, vopsE0, vopsE1, -vops, -Bool.exists_bool])) | (refine AW.ret ?_; (try simp (implicitDefEqProofs := false) [↓callI, vopsN, vopsG, ↓step_slice, ↓Am.A.step, ↓binInt, ↓binStr, vopsE0, vopsE1, -vops, -Bool.exists_bool])) | (refine AW.exit ?_; (try simp (implicitDefEqProofs := false) [↓callI, vopsN, vopsG, ↓step_slice, ↓Am.A.step, ↓binInt, ↓binStr, vopsE0, vopsE1, -vops, -Bool.exists_bool])))
        refine CallS.obj3 0 6 2 (ho2 _ _) (by first | exact plain_d _ | exact plain_tup2 _ _ | exact plain_tup3 _ _ _) ⟨rfl, fun _ => rfl⟩ ⟨rfl, fun _ => rfl⟩ ⟨rfl, fun _ => rfl⟩ rfl (by rfl) (by rfl) (by rfl) (by decide) (Subs.of (by simp)) ?_
        (try simp (implicitDefEqProofs := false) [↓callI, vopsN, vopsG, ↓step_slice, ↓Am.A.step, ↓binInt, ↓binStr, vopsE0, vopsE1, -vops, -Bool.exists_bool]; try simp (disch := omega) only [w64, wu64])
        repeat (first | refine AW.seq ?_ | refine AW.block ?_ | (refine AW.reg mix ?_; (simp (implicitDefEqProofs := false) [↓callI, vopsN, vopsG, ↓step_slice, ↓Am.A.step, ↓binInt, ↓binStr, vopsE0, vopsE1, -vops, -Bool.exists_bool]; try simp (disch := omega) only [w64, wu64])) | (refine need.of (by first | omega | kernel_rfl) ?_) | (refine AW.skip ?_; (try simp (implicitDefEqProofs := false) [↓callI, vopsN, vopsG, ↓step_slice, ↓Am.A.step, ↓binInt, ↓binStr, vopsE0, vopsE1, -vops, -Bool.exists_bool])) | (refine AW.ret ?_; (try simp (implicitDefEqProofs := false) [↓callI, vopsN, vopsG, ↓step_slice, ↓Am.A.step, ↓binInt, ↓binStr, vopsE0, vopsE1, -vops, -Bool.exists_bool])) | (refine AW.exit ?_; (try simp (implicitDefEqProofs := false) [↓callI, vopsN, vopsG, ↓step_slice, ↓Am.A.step, ↓binInt, ↓binStr, vopsE0, vopsE1, -vops, -Bool.exists_bool])))
        by_cases hr2 : r2 = 0
        · subst hr2
          rw [if_pos rfl] at hS
          refine AW.cond rfl (fun h => ?_) (fun h => ?_)
          · simp at h
          clear h
          cases f with
          | false =>
            rw [if_neg (by simp)] at hS
            repeat (first | refine AW.seq ?_ | refine AW.block ?_ | (refine AW.reg mix ?_; (simp (implicitDefEqProofs := false) [↓callI, vopsN, vopsG, ↓step_slice, ↓Am.A.step, ↓binInt, ↓binStr, vopsE0, vopsE1, -vops, -Bool.exists_bool]; try simp (disch := omega) only [w64, wu64])) | (refine need.of (by first | omega | kernel_rfl) ?_) | (refine AW.skip ?_; (try simp (implicitDefEqProofs := false) [↓callI, vopsN, vopsG, ↓step_slice, ↓Am.A.step, ↓binInt, ↓binStr, vopsE0, vopsE1, -vops, -Bool.exists_bool])) | (refine AW.ret ?_; (try simp (implicitDefEqProofs := false) [↓callI, vopsN, vopsG, ↓step_slice, ↓Am.A.step, ↓binInt, ↓binStr, vopsE0, vopsE1, -vops, -Bool.exists_bool])) | (refine AW.exit ?_; (try simp (implicitDefEqProofs := false) [↓callI, vopsN, vopsG, ↓step_slice, ↓Am.A.step, ↓binInt, ↓binStr, vopsE0, vopsE1, -vops, -Bool.exists_bool])))
            refine AW.cond rfl (fun h => ?_) (fun h => ?_)
            · simp at h
            repeat (first | refine AW.seq ?_ | refine AW.block ?_ | (refine AW.reg mix ?_; (simp (implicitDefEqProofs := false) [↓callI, vopsN, vopsG, ↓step_slice, ↓Am.A.step, ↓binInt, ↓binStr, vopsE0, vopsE1, -vops, ew, -Bool.exists_bool]; try simp (disch := omega) only [w64, wu64])) | (refine need.of (by first | omega | kernel_rfl) ?_) | (refine AW.skip ?_; (try simp (implicitDefEqProofs := false) [↓callI, vopsN, vopsG, ↓step_slice, ↓Am.A.step, ↓binInt, ↓binStr, vopsE0, vopsE1, -vops, ew, -Bool.exists_bool])) | (refine AW.ret ?_; (try simp (implicitDefEqProofs := false) [↓callI, vopsN, vopsG, ↓step_slice, ↓Am.A.step, ↓binInt, ↓binStr, vopsE0, vopsE1, -vops, ew, -Bool.exists_bool])) | (refine AW.exit ?_; (try simp (implicitDefEqProofs := false) [↓callI, vopsN, vopsG, ↓step_slice, ↓Am.A.step, ↓binInt, ↓binStr, vopsE0, vopsE1, -vops, ew, -Bool.exists_bool])))
            exact ⟨i + 1, z', r3, r4, ⟨by omega, hz', hle, by rw [hS]; congr 1; omega⟩, by omega, by simp⟩
          | true =>
            repeat (first | refine AW.seq ?_ | refine AW.block ?_ | (refine AW.reg mix ?_; (simp (implicitDefEqProofs := false) [↓callI, vopsN, vopsG, ↓step_slice, ↓Am.A.step, ↓binInt, ↓binStr, vopsE0, vopsE1, -vops, -Bool.exists_bool]; try simp (disch := omega) only [w64, wu64])) | (refine need.of (by first | omega | kernel_rfl) ?_) | (refine AW.skip ?_; (try simp (implicitDefEqProofs := false) [↓callI, vopsN, vopsG, ↓step_slice, ↓Am.A.step, ↓binInt, ↓binStr, vopsE0, vopsE1, -vops, -Bool.exists_bool])) | (refine AW.ret ?_; (try simp (implicitDefEqProofs := false) [↓callI, vopsN, vopsG, ↓step_slice, ↓Am.A.step, ↓binInt, ↓binStr, vopsE0, vopsE1, -vops, -Bool.exists_bool])) | (refine AW.exit ?_; (try simp (implicitDefEqProofs := false) [↓callI, vopsN, vopsG, ↓step_slice, ↓Am.A.step, ↓binInt, ↓binStr, vopsE0, vopsE1, -vops, -Bool.exists_bool])))
            refine CallS.pure (htop) (by first | exact plain_d _ | exact plain_tup2 _ _ | exact plain_tup3 _ _ _) rfl (fun _ => rfl) (Subs.refl _) ?_
            (try simp (implicitDefEqProofs := false) [↓callI, vopsN, vopsG, ↓step_slice, ↓Am.A.step, ↓binInt, ↓binStr, vopsE0, vopsE1, -vops, -Bool.exists_bool]; try simp (disch := omega) only [w64, wu64])
            repeat (first | refine AW.seq ?_ | refine AW.block ?_ | (refine AW.reg mix ?_; (simp (implicitDefEqProofs := false) [↓callI, vopsN, vopsG, ↓step_slice, ↓Am.A.step, ↓binInt, ↓binStr, vopsE0, vopsE1, -vops, -Bool.exists_bool]; try simp (disch := omega) only [w64, wu64])) | (refine need.of (by first | omega | kernel_rfl) ?_) | (refine AW.skip ?_; (try simp (implicitDefEqProofs := false) [↓callI, vopsN, vopsG, ↓step_slice, ↓Am.A.step, ↓binInt, ↓binStr, vopsE0, vopsE1, -vops, -Bool.exists_bool])) | (refine AW.ret ?_; (try simp (implicitDefEqProofs := false) [↓callI, vopsN, vopsG, ↓step_slice, ↓Am.A.step, ↓binInt, ↓binStr, vopsE0, vopsE1, -vops, -Bool.exists_bool])) | (refine AW.exit ?_; (try simp (implicitDefEqProofs := false) [↓callI, vopsN, vopsG, ↓step_slice, ↓Am.A.step, ↓binInt, ↓binStr, vopsE0, vopsE1, -vops, -Bool.exists_bool])))
            by_cases hb : z' = W
            · rw [if_pos ⟨rfl, hb⟩] at hS
              subst hb
              refine AW.cond rfl (fun h => ?_) (fun h => ?_)
              · refine AW.exit ?_
                (try simp (implicitDefEqProofs := false) [↓callI, vopsN, vopsG, ↓step_slice, ↓Am.A.step, ↓binInt, ↓binStr, vopsE0, vopsE1, -vops, -Bool.exists_bool]; try simp (disch := omega) only [w64, wu64])
                repeat (first | refine AW.seq ?_ | refine AW.block ?_ | (refine AW.reg mix ?_; (simp (implicitDefEqProofs := false) [↓callI, vopsN, vopsG, ↓step_slice, ↓Am.A.step, ↓binInt, ↓binStr, vopsE0, vopsE1, -vops, -Bool.exists_bool]; try simp (disch := omega) only [w64, wu64])) | (refine need.of (by first | omega | kernel_rfl) ?_) | (refine AW.skip ?_; (try simp (implicitDefEqProofs := false) [↓callI, vopsN, vopsG, ↓step_slice, ↓Am.A.step, ↓binInt, ↓binStr, vopsE0, vopsE1, -vops, -Bool.exists_bool])) | (refine AW.ret ?_; (try simp (implicitDefEqProofs := false) [↓callI, vopsN, vopsG, ↓step_slice, ↓Am.A.step, ↓binInt, ↓binStr, vopsE0, vopsE1, -vops, -Bool.exists_bool])) | (refine AW.exit ?_; (try simp (implicitDefEqProofs := false) [↓callI, vopsN, vopsG, ↓step_slice, ↓Am.A.step, ↓binInt, ↓binStr, vopsE0, vopsE1, -vops, -Bool.exists_bool])))
                simp [hS]
              · simp at h
            · rw [if_neg (by simp [hb])] at hS
              have hb' : ¬ (z' : Int) = W := by omega
              refine AW.cond rfl (fun h => ?_) (fun h => ?_)
              · simp [hb, hb'] at h
              repeat (first | refine AW.seq ?_ | refine AW.block ?_ | (refine AW.reg mix ?_; (simp (implicitDefEqProofs := false) [↓callI, vopsN, vopsG, ↓step_slice, ↓Am.A.step, ↓binInt, ↓binStr, vopsE0, vopsE1, -vops, ew, -Bool.exists_bool]; try simp (disch := omega) only [w64, wu64])) | (refine need.of (by first | omega | kernel_rfl) ?_) | (refine AW.skip ?_; (try simp (implicitDefEqProofs := false) [↓callI, vopsN, vopsG, ↓step_slice, ↓Am.A.step, ↓binInt, ↓binStr, vopsE0, vopsE1, -vops, ew, -Bool.exists_bool])) | (refine AW.ret ?_; (try simp (implicitDefEqProofs := false) [↓callI, vopsN, vopsG, ↓step_slice, ↓Am.A.step, ↓binInt, ↓binStr, vopsE0, vopsE1, -vops, ew, -Bool.exists_bool])) | (refine AW.exit ?_; (try simp (implicitDefEqProofs := false) [↓callI, vopsN, vopsG, ↓step_slice, ↓Am.A.step, ↓binInt, ↓binStr, vopsE0, vopsE1, -vops, ew, -Bool.exists_bool])))
              exact ⟨i + 1, z', r3, r4, ⟨by omega, hz', hle, by rw [hS]; congr 1; omega⟩, by omega, by simp⟩
        · rw [if_neg hr2] at hS
          refine AW.cond rfl (fun h => ?_) (fun h => ?_)
          · repeat (first | refine AW.seq ?_ | refine AW.block ?_ | (refine AW.reg mix ?_; (simp (implicitDefEqProofs := false) [↓callI, vopsN, vopsG, ↓step_slice, ↓Am.A.step, ↓binInt, ↓binStr, vopsE0, vopsE1, -vops, -Bool.exists_bool]; try simp (disch := omega) only [w64, wu64])) | (refine need.of (by first | omega | kernel_rfl) ?_) | (refine AW.skip ?_; (try simp (implicitDefEqProofs := false) [↓callI, vopsN, vopsG, ↓step_slice, ↓Am.A.step, ↓binInt, ↓binStr, vopsE0, vopsE1, -vops, -Bool.exists_bool])) | (refine AW.ret ?_; (try simp (implicitDefEqProofs := false) [↓callI, vopsN, vopsG, ↓step_slice, ↓Am.A.step, ↓binInt, ↓binStr, vopsE0, vopsE1, -vops, -Bool.exists_bool])) | (refine AW.exit ?_; (try simp (implicitDefEqProofs := false) [↓callI, vopsN, vopsG, ↓step_slice, ↓Am.A.step, ↓binInt, ↓binStr, vopsE0, vopsE1, -vops, -Bool.exists_bool])))
            simp [hS, hr2]
          · simp [hr2] at h
    · simp [hlt'] at h
end Go.Proofs.Ytakjegcjeffmgaa.Am
