/- The law CmsWrites returns true, whatever the input, and leaves the input as it was. -/
import Derived.Test.YtdklbnemfelpnaaGreatDoorLaw
import Derived.Test.YtdklbnemfelpnaaGreatDoorShape
import Derived.Test.YtdklbnemfelpnaaGreatDoorCards
import Derived.Test.YtdklbnemfelpnaaGreatDoorTie
import Derived.SevenTiedAt
import Derived.LaidLaws
import Derived.LaidHandle
import Derived.Handed
import Derived.Deep.DeepLaidRun
import Derived.Test.YtdklbnemfelpnaaGreatDoorOpen
namespace Go.Proofs.YtdklbnemfelpnaaGreatDoor.cmsWrites
open Go.ChangeShapes Go.WideShapes Go.ChangeAt Go.RowKit

/-- the cells of plain data -/
def cellsAs : DataW Unit → Array Value
  | .agg l => (l.map fun x => match x with
    | .lit (.int k n) => Value.int k n
    | _ => .bool false).toArray
  | _ => #[]
def lay (d : DataW Unit) : Obj → Obj
  | .cells _ t frozen => .cells (cellsAs d) t frozen
  | o => o
/-- A world that meets the condition: the settled one, the tables laid. -/
noncomputable def laidWorld (os : Os) : World :=
  let w0 := World.holding Tryz.prog os ⟨#[], #[], []⟩
  { w0 with heap := ((w0.heap.modify 2 (lay Rows.laid_internal_strconv_uint64pow10)).modify 4 (lay Rows.laid_math_bits_deBruijn32tab)).modify 5 (lay Rows.laid_math_bits_deBruijn64tab) }

set_option maxRecDepth 100000 in
theorem laid_met (os : Os) (args : Array Value) : laidMet Tryz.prog Rows.cmsWritesRow.laid ((laidWorld os).forCall (fun _ _ => 0) ⟨#[], args, []⟩).memory :=
  laidMet_of_run3 8 (by kernel_rfl) (by kernel_rfl) (by kernel_rfl)
theorem laid_metH (os : Os) (args : Array Value) : laidMetH Tryz.prog Rows.cmsWritesRow.laid ((laidWorld os).forCall (fun _ _ => 0) ⟨#[], args, []⟩).memory :=
  laid_met os args

set_option maxRecDepth 100000 in
theorem lifted (os : Os) (started : os.Started) (H : Type) (enc : TypeId × Value → H) :
    ReturnsInHanded {} Tryz.checked os 5 .any (fun w args => (Rows.cmsWritesSpec.pre enc Tryz.prog Tryz.f5 Rows.cmsWritesRow.domain false w args ∧ laidMetH Tryz.prog Rows.cmsWritesRow.laid w) ∧ sizedMet enc Tryz.prog Tryz.f5 (OpenSpec.ofChange Rows.cmsWritesSpec) false w args) (Rows.cmsWritesSpec.post enc Tryz.prog Tryz.f5 false true false false) := by
  refine returnsInHanded_of_change_and (C := Tryz.checked) (X := fun w _ => laidMetH Tryz.prog Rows.cmsWritesRow.laid w) (fun _ _ _ hh h => h.of_heap hh) own started (by kernel_rfl) Tryz.func5
    (ChangeSpec.witness_at (enc := enc) (C := Tryz.checked) (os := os) (X := fun w _ => laidMetH Tryz.prog Rows.cmsWritesRow.laid w) false (laidWorld os) #[.agg #[.int .i64 0, .int .i64 0, .int .i64 0, .int .i64 0, .int .i64 0, .slice none 0 0], .slice none 0 0, .slice none 0 0] 8 rfl (by kernel_rfl) (by kernel_rfl) (by kernel_rfl) (by kernel_rfl) (by kernel_rfl) (laid_metH os _)) ?_
  intro W base args ds gs before hval0 hW hcnd _ hL _
  have hval : ∀ (j : Nat) t v, Tryz.f5.params[j]? = some t → args[j]? = some v → Value.okWide Tryz.prog W .any base t v := hval0
  have hW' := hW
  obtain ⟨p, q, hA0, hV, rfl, hfz, hnd⟩ := hW
  have hA : DataW.TrodAll enc Tryz.prog W 0 (fun _ => true) true Tryz.f5.params.toList args.toList ds p := hA0
  rw [Tryz.params5] at hA hval
  obtain ⟨v0, vs0, d0, ds0, p0, q0, hargs, rfl, rfl, h0, r0⟩ := trodAll_cons hA
  obtain ⟨v1, vs1, d1, ds1, p1, q1, rfl, rfl, rfl, h1, r1⟩ := trodAll_cons r0
  obtain ⟨v2, vs2, d2, ds2, p2, q2, rfl, rfl, rfl, h2, r2⟩ := trodAll_cons r1
  obtain ⟨rfl, rfl, rfl⟩ := trodAll_nil r2
  obtain rfl : args = #[v0, v1, v2] := by cases args; simp_all
  obtain ⟨rfl, rfl⟩ := trodVars_none hV
  have k0 := h0
  have lt0 : ∀ x ∈ p0, x.block < W.heap.size := by obtain ⟨m, hm⟩ := k0; exact DataW.trod_lt m _ _ _ hm
  have k1 := h1
  have lt1 : ∀ x ∈ p1, x.block < W.heap.size := by obtain ⟨m, hm⟩ := k1; exact DataW.trod_lt m _ _ _ hm
  have k2 := h2
  have lt2 : ∀ x ∈ p2, x.block < W.heap.size := by obtain ⟨m, hm⟩ := k2; exact DataW.trod_lt m _ _ _ hm
  obtain ⟨cs0, rfl, fl0⟩ : ∃ cs : List Value, v0 = .agg cs.toArray ∧ Fits2 (fun u v => Cell.okWide Tryz.prog W .any base u v ∧ ∃ m y, DataW.trod enc Tryz.prog W 0 (fun _ => true) true m u v.cells.toList = some y) [.i .i64, .i .i64, .i .i64, .i .i64, .i .i64, .s 23] cs := by
    obtain ⟨fuel, hf⟩ := h0
    exact open_shape (n := 6) (ts := (Tryz.prog.cellTypes Tryz.prog.depth 70).getD []) (by kernel_rfl) (by kernel_rfl) (by kernel_rfl) (by kernel_rfl) (hval 0 70 v0 rfl rfl) hf
  obtain ⟨y0_0, cs0, rfl, wf0_0, fl0⟩ := fl0.int
  obtain ⟨y0_1, cs0, rfl, wf0_1, fl0⟩ := fl0.int
  obtain ⟨y0_2, cs0, rfl, wf0_2, fl0⟩ := fl0.int
  obtain ⟨y0_3, cs0, rfl, wf0_3, fl0⟩ := fl0.int
  obtain ⟨y0_4, cs0, rfl, wf0_4, fl0⟩ := fl0.int
  obtain ⟨s0_5, cs0, rfl, ⟨ok0_5, m0_5, y0_5, td0_5⟩, fl0⟩ := fl0.slice
  obtain ⟨L0_5, w0_5, fe0_5⟩ : ∃ L : List (List Value), Cells W s0_5 1 L.length L.flatten ∧ ∀ l ∈ L, Fits [.i .u64] l :=
    open_flats (n := 6) (ks := [.i .u64]) Tryz.underlying23 (by kernel_rfl) (by kernel_rfl) ok0_5 td0_5
  obtain ⟨xs0_5, rfl, px0_5⟩ := decode (enc := fun a : Int => [.int .u64 a]) (p := fun a => (Lit.int .u64 a).wf = true) L0_5 (fun l hl => by
    have f := fe0_5 l hl
    obtain ⟨y0, l, rfl, wf0, f⟩ := f.int
    obtain rfl := f.nil
    exact ⟨(y0), rfl, wf0⟩)
  rw [List.length_map] at w0_5
  obtain rfl := fl0.nil
  obtain ⟨L1, w1, fl1⟩ : ∃ L : List (List Value), Cells W v1 2 L.length L.flatten ∧ ∀ l ∈ L, Fits [.i .u64, .i .i64] l := by
    obtain ⟨fuel, hf⟩ := h1
    exact open_flats (n := 6) (ks := [.i .u64, .i .i64]) Tryz.underlying71 (by kernel_rfl) (by kernel_rfl) (hval 1 71 v1 rfl rfl) hf
  obtain ⟨xs1, rfl, px1⟩ := decode (enc := fun a : Int × Int => [.int .u64 a.1, .int .i64 a.2]) (p := fun a => (Lit.int .u64 a.1).wf = true ∧ (Lit.int .i64 a.2).wf = true) L1 (fun l hl => by
    have f := fl1 l hl
    obtain ⟨y0, l, rfl, wf0, f⟩ := f.int
    obtain ⟨y1, l, rfl, wf1, f⟩ := f.int
    obtain rfl := f.nil
    exact ⟨(y0, y1), rfl, ⟨wf0, wf1⟩⟩)
  rw [List.length_map] at w1
  obtain ⟨L2, w2, fl2⟩ : ∃ L : List (List Value), Cells W v2 1 L.length L.flatten ∧ ∀ l ∈ L, Fits [.i .u8] l := by
    obtain ⟨fuel, hf⟩ := h2
    exact open_flats (n := 6) (ks := [.i .u8]) Tryz.underlying72 (by kernel_rfl) (by kernel_rfl) (hval 2 72 v2 rfl rfl) hf
  obtain ⟨xs2, rfl, px2⟩ := decode (enc := fun a : Int => [.int .u8 a]) (p := fun a => (Lit.int .u8 a).wf = true) L2 (fun l hl => by
    have f := fl2 l hl
    obtain ⟨y0, l, rfl, wf0, f⟩ := f.int
    obtain rfl := f.nil
    exact ⟨(y0), rfl, wf0⟩)
  rw [List.length_map] at w2
  clear hA0 hval0
  refine (Am.cmw_walk wf0_0 wf0_1 wf0_2 wf0_3 wf0_4 w0_5 w0_5.len px0_5 w1 w1.len px1 w2 w2.len px2).mono fun e W' ⟨he, hs⟩ => ?_
  subst he
  have bel := hs.below
  exact ⟨_, rfl, _, _, _, [], _, [], hW', trodAll_mk1 (shut_bool Tryz.underlying4 _), (trodAll_cons_mk (Below.trod laidOut (by kernel_rfl) (of_decide_eq_true (by kernel_rfl)) k0 bel lt0) (trodAll_cons_mk (Below.trod laidOut (by kernel_rfl) (of_decide_eq_true (by kernel_rfl)) k1 bel lt1) (trodAll_cons_mk (Below.trod laidOut (by kernel_rfl) (of_decide_eq_true (by kernel_rfl)) k2 bel lt2) trodAll_mk0))), rfl, bel.frame _, fun h => by cases h⟩

theorem proved : Rows.CmsWritesSaid :=
  OpenClaim.holds_of_wide 5 Tryz.f5 rfl rfl rfl rfl rfl rfl rfl ⟨rfl, rfl, rfl, rfl, rfl⟩ rfl rfl rfl rfl rfl (by kernel_rfl) Tryz.func5 (by kernel_rfl)
    (of_decide_eq_true (by kernel_rfl)) (by unfold Func.isWrapper; first | (rw [if_pos (by decide +kernel)]; kernel_rfl) | (rw [if_neg (by decide +kernel)]; exact ⟨rfl, rfl⟩))
    (fun os started H enc _ => lifted os started H enc)

theorem card : Rows.CmsWritesCardSaid :=
  Claim7.holds_tied_plain_at .later [] [.data, .data, .data] true (true, "0d71e109153a8b879f90a76194c7907d2efd14c8f04f2f0bf1c05a08804484e0") false
    proved (fun _ h => by cases h) (by kernel_rfl) (fun _ h => by cases h) cmsWrites_row_tie rfl ⟨rfl, rfl⟩ (by kernel_rfl) rfl
    (fun f fn hf hfn => by
      obtain rfl : f = 5 := Option.some.inj ((show Tryz.prog.funcNamed "tallymark/tallymarklaw21.CmsWrites" = some 5 by kernel_rfl).symm.trans hf) |>.symm
      obtain rfl : fn = Tryz.f5 := (Option.some.inj (Tryz.func5.symm.trans hfn)).symm
      exact ⟨by kernel_rfl, fun j t ht => by
        rw [Tryz.params5] at ht
        rcases j with _ | _ | _ | j
        · simp at ht; subst ht; kernel_rfl
        · simp at ht; subst ht; kernel_rfl
        · simp at ht; subst ht; kernel_rfl
        · simp at ht⟩)
    (by kernel_rfl)
#print axioms card
end Go.Proofs.YtdklbnemfelpnaaGreatDoor.cmsWrites
