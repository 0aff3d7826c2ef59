/- The law CarrayWrites returns true, whatever the input, and leaves the input as it was. -/
import Derived.Test.YtlelpbaeplcfiaaLaw
import Derived.Test.YtlelpbaeplcfiaaFlat
import Derived.Test.YtlelpbaeplcfiaaOpen
namespace Go.Proofs.Ytlelpbaeplcfiaa.carrayWrites
open Go.ChangeShapes Go.WideShapes Go.ChangeAt Go.RowKit

set_option maxRecDepth 100000 in
theorem lifted (os : Os) (started : os.Started) (H : Type) (enc : TypeId × Value → H) :
    ReturnsInHanded {} Try.checked os 3 .any (Rows.carrayWritesSpec.pre6 enc Try.prog Try.f3 Rows.carrayWritesRow.domain false) (Rows.carrayWritesSpec.post enc Try.prog Try.f3 false true false false) := by
  refine returnsInHanded_of_change (C := Try.checked) own started (by kernel_rfl) Try.func3
    (ChangeSpec.witness6 (enc := enc) (C := Try.checked) false ⟨#[], #[.agg #[.int .i64 0, .int .i64 0, .int .i64 0], .slice none 0 0, .slice none 0 0], []⟩ 8 (by kernel_rfl) (by kernel_rfl) (by kernel_rfl) (by kernel_rfl)) ?_
  intro W base args ds gs before hval0 hW hcnd _
  have hval : ∀ (j : Nat) t v, Try.f3.params[j]? = some t → args[j]? = some v → Value.okWide Try.prog W .any base t v := hval0
  have hW' := hW
  obtain ⟨p, q, hA0, hV, rfl, hfz, hnd⟩ := hW
  have hA : DataW.TrodAll enc Try.prog W 0 (fun _ => true) true Try.f3.params.toList args.toList ds p := hA0
  rw [Try.params3] at hA hval
  obtain ⟨v0, vs0, d0, ds0, p0, q0, hargs, rfl, rfl, h0, r0⟩ := trodAll_cons hA
  obtain ⟨v1, vs1, d1, ds1, p1, q1, rfl, rfl, rfl, h1, r1⟩ := trodAll_cons r0
  obtain ⟨v2, vs2, d2, ds2, p2, q2, rfl, rfl, rfl, h2, r2⟩ := trodAll_cons r1
  obtain ⟨rfl, rfl, rfl⟩ := trodAll_nil r2
  obtain rfl : args = #[v0, v1, v2] := by cases args; simp_all
  obtain ⟨rfl, rfl⟩ := trodVars_none hV
  have k0 := h0
  have lt0 : ∀ x ∈ p0, x.block < W.heap.size := by obtain ⟨m, hm⟩ := k0; exact DataW.trod_lt m _ _ _ hm
  have k1 := h1
  have lt1 : ∀ x ∈ p1, x.block < W.heap.size := by obtain ⟨m, hm⟩ := k1; exact DataW.trod_lt m _ _ _ hm
  have k2 := h2
  have lt2 : ∀ x ∈ p2, x.block < W.heap.size := by obtain ⟨m, hm⟩ := k2; exact DataW.trod_lt m _ _ _ hm
  obtain ⟨cs0, rfl, fl0⟩ : ∃ cs : List Value, v0 = .agg cs.toArray ∧ Fits [.i .i64, .i .i64, .i .i64] cs := by
    obtain ⟨fuel, hf⟩ := h0
    exact open_flat (n := 6) (by kernel_rfl) (by kernel_rfl) (hval 0 23 v0 rfl rfl) hf
  obtain ⟨y0_0, cs0, rfl, -, fl0⟩ := fl0.int
  obtain ⟨y0_1, cs0, rfl, -, fl0⟩ := fl0.int
  obtain ⟨y0_2, cs0, rfl, -, fl0⟩ := fl0.int
  obtain rfl := fl0.nil
  obtain ⟨L1, w1, fl1⟩ : ∃ L : List (List Value), Cells W v1 3 L.length L.flatten ∧ ∀ l ∈ L, Fits [.i .i64, .i .i64, .b] l := by
    obtain ⟨fuel, hf⟩ := h1
    exact open_flats (n := 6) (ks := [.i .i64, .i .i64, .b]) Try.underlying24 (by kernel_rfl) (by kernel_rfl) (hval 1 24 v1 rfl rfl) hf
  obtain ⟨xs1, rfl, px1⟩ := decode (enc := fun a : Int × Int × Bool => [.int .i64 a.1, .int .i64 a.2.1, .bool a.2.2]) (p := fun a => (Lit.int .i64 a.1).wf = true ∧ (Lit.int .i64 a.2.1).wf = true) L1 (fun l hl => by
    have f := fl1 l hl
    obtain ⟨y0, l, rfl, wf0, f⟩ := f.int
    obtain ⟨y1, l, rfl, wf1, f⟩ := f.int
    obtain ⟨y2, l, rfl, f⟩ := f.bool
    obtain rfl := f.nil
    exact ⟨(y0, y1, y2), rfl, ⟨wf0, wf1⟩⟩)
  rw [List.length_map] at w1
  obtain ⟨L2, w2, fl2⟩ : ∃ L : List (List Value), Cells W v2 1 L.length L.flatten ∧ ∀ l ∈ L, Fits [.i .u8] l := by
    obtain ⟨fuel, hf⟩ := h2
    exact open_flats (n := 6) (ks := [.i .u8]) Try.underlying25 (by kernel_rfl) (by kernel_rfl) (hval 2 25 v2 rfl rfl) hf
  obtain ⟨xs2, rfl, px2⟩ := decode (enc := fun a : Int => [.int .u8 a]) (p := fun a => (Lit.int .u8 a).wf = true) L2 (fun l hl => by
    have f := fl2 l hl
    obtain ⟨y0, l, rfl, wf0, f⟩ := f.int
    obtain rfl := f.nil
    exact ⟨(y0), rfl, wf0⟩)
  rw [List.length_map] at w2
  clear hA0 hval0
  refine (Am.cw_walk w1 w1.len w2 w2.len px2).mono fun e W' ⟨he, hs⟩ => ?_
  subst he
  have bel := hs.below
  exact ⟨_, rfl, _, _, _, [], _, [], hW', trodAll_mk1 (shut_bool Try.underlying4 _), (trodAll_cons_mk (Below.trod laidOut (by kernel_rfl) (of_decide_eq_true (by kernel_rfl)) k0 bel lt0) (trodAll_cons_mk (Below.trod laidOut (by kernel_rfl) (of_decide_eq_true (by kernel_rfl)) k1 bel lt1) (trodAll_cons_mk (Below.trod laidOut (by kernel_rfl) (of_decide_eq_true (by kernel_rfl)) k2 bel lt2) trodAll_mk0))), rfl, bel.frame _, fun h => by cases h⟩

theorem proved : Rows.CarrayWritesSaid :=
  OpenClaim.holds_of_wide 3 Try.f3 rfl rfl rfl rfl rfl rfl rfl ⟨rfl, rfl, rfl, rfl, rfl⟩ rfl rfl rfl rfl rfl (by kernel_rfl) Try.func3 (by kernel_rfl)
    (of_decide_eq_true (by kernel_rfl)) (by unfold Func.isWrapper; first | (rw [if_pos (by decide +kernel)]; kernel_rfl) | (rw [if_neg (by decide +kernel)]; exact ⟨rfl, rfl⟩))
    (fun os started H enc _ => lifted os started H enc)
#print axioms proved
end Go.Proofs.Ytlelpbaeplcfiaa.carrayWrites
