/- The law TallyExact returns true, whatever the input, and leaves the input as it was. -/
import Derived.Test.YtidfejfgmlakpaaGreatLaw
import Derived.Test.YtidfejfgmlakpaaGreatFlat
import Derived.Test.YtidfejfgmlakpaaGreatOpen
namespace Go.Proofs.YtidfejfgmlakpaaGreat.tallyExact
open Go.ChangeShapes Go.WideShapes Go.ChangeAt Go.RowKit

set_option maxRecDepth 100000 in
theorem lifted (os : Os) (started : os.Started) (H : Type) (enc : TypeId × Value → H) :
    ReturnsInHanded {} Tryz.checked os 3 .any (Rows.tallyExactSpec.pre6 enc Tryz.prog Tryz.f3 Rows.tallyExactRow.domain false) (Rows.tallyExactSpec.post enc Tryz.prog Tryz.f3 false true false false) := by
  refine returnsInHanded_of_change (C := Tryz.checked) own started (by kernel_rfl) Tryz.func3
    (ChangeSpec.witness6 (enc := enc) (C := Tryz.checked) false ⟨#[], #[.agg #[.int .i64 0, .int .i64 0, .int .i64 0], .agg #[.int .i64 0, .int .i64 0]], []⟩ 8 (by kernel_rfl) (by kernel_rfl) (by kernel_rfl) (by kernel_rfl)) ?_
  intro W base args ds gs before hval0 hW hcnd _
  have hval : ∀ (j : Nat) t v, Tryz.f3.params[j]? = some t → args[j]? = some v → Value.okWide Tryz.prog W .any base t v := hval0
  have hW' := hW
  obtain ⟨p, q, hA0, hV, rfl, hfz, hnd⟩ := hW
  have hA : DataW.TrodAll enc Tryz.prog W 0 (fun _ => true) true Tryz.f3.params.toList args.toList ds p := hA0
  rw [Tryz.params3] at hA hval
  obtain ⟨v0, vs0, d0, ds0, p0, q0, hargs, rfl, rfl, h0, r0⟩ := trodAll_cons hA
  obtain ⟨v1, vs1, d1, ds1, p1, q1, rfl, rfl, rfl, h1, r1⟩ := trodAll_cons r0
  obtain ⟨rfl, rfl, rfl⟩ := trodAll_nil r1
  obtain rfl : args = #[v0, v1] := by cases args; simp_all
  obtain ⟨rfl, rfl⟩ := trodVars_none hV
  have k0 := h0
  have lt0 : ∀ x ∈ p0, x.block < W.heap.size := by obtain ⟨m, hm⟩ := k0; exact DataW.trod_lt m _ _ _ hm
  have k1 := h1
  have lt1 : ∀ x ∈ p1, x.block < W.heap.size := by obtain ⟨m, hm⟩ := k1; exact DataW.trod_lt m _ _ _ hm
  obtain ⟨cs0, rfl, fl0⟩ : ∃ cs : List Value, v0 = .agg cs.toArray ∧ Fits [.i .i64, .i .i64, .i .i64] cs := by
    obtain ⟨fuel, hf⟩ := h0
    exact open_flat (n := 6) (by kernel_rfl) (by kernel_rfl) (hval 0 23 v0 rfl rfl) hf
  obtain ⟨y0_0, cs0, rfl, -, fl0⟩ := fl0.int
  obtain ⟨y0_1, cs0, rfl, -, fl0⟩ := fl0.int
  obtain ⟨y0_2, cs0, rfl, -, fl0⟩ := fl0.int
  obtain rfl := fl0.nil
  obtain ⟨cs1, rfl, fl1⟩ : ∃ cs : List Value, v1 = .agg cs.toArray ∧ Fits [.i .i64, .i .i64] cs := by
    obtain ⟨fuel, hf⟩ := h1
    exact open_flat (n := 6) (by kernel_rfl) (by kernel_rfl) (hval 1 24 v1 rfl rfl) hf
  obtain ⟨y1_0, cs1, rfl, -, fl1⟩ := fl1.int
  obtain ⟨y1_1, cs1, rfl, -, fl1⟩ := fl1.int
  obtain rfl := fl1.nil
  clear hA0 hval0
  refine (Am.tx_walk ).mono fun e W' ⟨he, hs⟩ => ?_
  subst he
  have bel := hs.below
  exact ⟨_, rfl, _, _, _, [], _, [], hW', trodAll_mk1 (shut_bool Tryz.underlying4 _), (trodAll_cons_mk (Below.trod laidOut (by kernel_rfl) (of_decide_eq_true (by kernel_rfl)) k0 bel lt0) (trodAll_cons_mk (Below.trod laidOut (by kernel_rfl) (of_decide_eq_true (by kernel_rfl)) k1 bel lt1) trodAll_mk0)), rfl, bel.frame _, fun h => by cases h⟩

theorem proved : Rows.TallyExactSaid :=
  OpenClaim.holds_of_wide 3 Tryz.f3 rfl rfl rfl rfl rfl rfl rfl ⟨rfl, rfl, rfl, rfl, rfl⟩ rfl rfl rfl rfl rfl (by kernel_rfl) Tryz.func3 (by kernel_rfl)
    (of_decide_eq_true (by kernel_rfl)) (by unfold Func.isWrapper; first | (rw [if_pos (by decide +kernel)]; kernel_rfl) | (rw [if_neg (by decide +kernel)]; exact ⟨rfl, rfl⟩))
    (fun os started H enc _ => lifted os started H enc)
#print axioms proved
end Go.Proofs.YtidfejfgmlakpaaGreat.tallyExact
