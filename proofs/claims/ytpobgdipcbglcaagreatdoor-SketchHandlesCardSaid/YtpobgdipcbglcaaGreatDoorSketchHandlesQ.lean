/- The law SketchHandles returns true, whatever the input, and leaves the input as it was. -/
import Derived.Test.YtpobgdipcbglcaaGreatDoorLaw
import Derived.Test.YtpobgdipcbglcaaGreatDoorSketchHandlesI
import Derived.Test.YtpobgdipcbglcaaGreatDoorFlat
import Derived.Test.YtpobgdipcbglcaaGreatDoorTabs
import Derived.Test.YtpobgdipcbglcaaGreatDoorCards
import Derived.Test.YtpobgdipcbglcaaGreatDoorTie
import Derived.SevenTiedAt
import Derived.LaidLaws
import Derived.LaidHandle
import Derived.Handed
import Derived.Deep.DeepLaidRun
import Derived.Test.YtpobgdipcbglcaaGreatDoorOpen
namespace Go.Proofs.YtpobgdipcbglcaaGreatDoor.sketchHandles
open Go.ChangeShapes Go.WideShapes Go.ChangeAt Go.RowKit

/-- the cells of plain data -/
def cellsAs : DataW Unit → Array Value
  | .agg l => (l.map fun x => match x with
    | .lit (.int k n) => Value.int k n
    | _ => .bool false).toArray
  | _ => #[]
def lay (d : DataW Unit) : Obj → Obj
  | .cells _ t frozen => .cells (cellsAs d) t frozen
  | o => o
/-- A world that meets the condition: the settled one, the tables laid. -/
noncomputable def laidWorld (os : Os) : World :=
  let w0 := World.holding Tryz.prog os ⟨#[], #[], []⟩
  { w0 with heap := ((w0.heap.modify 2 (lay Rows.laid_internal_strconv_uint64pow10)).modify 4 (lay Rows.laid_math_bits_deBruijn32tab)).modify 5 (lay Rows.laid_math_bits_deBruijn64tab) }

set_option maxRecDepth 100000 in
theorem laid_met (os : Os) (args : Array Value) : laidMet Tryz.prog Rows.sketchHandlesRow.laid ((laidWorld os).forCall (fun _ _ => 0) ⟨#[], args, []⟩).memory :=
  laidMet_of_run3 8 (by kernel_rfl) (by kernel_rfl) (by kernel_rfl)
theorem laid_metH (os : Os) (args : Array Value) : laidMetH Tryz.prog Rows.sketchHandlesRow.laid ((laidWorld os).forCall (fun _ _ => 0) ⟨#[], args, []⟩).memory :=
  laid_met os args

set_option maxRecDepth 100000 in
theorem lifted (os : Os) (started : os.Started) (H : Type) (enc : TypeId × Value → H) :
    ReturnsInHanded {} Tryz.checked os 4 .any (fun w args => (Rows.sketchHandlesSpec.pre enc Tryz.prog Tryz.f4 Rows.sketchHandlesRow.domain false w args ∧ laidMetH Tryz.prog Rows.sketchHandlesRow.laid w) ∧ sizedMet enc Tryz.prog Tryz.f4 (OpenSpec.ofChange Rows.sketchHandlesSpec) false w args) (Rows.sketchHandlesSpec.post enc Tryz.prog Tryz.f4 false true false false) := by
  refine returnsInHanded_of_change_and (C := Tryz.checked) (X := fun w _ => laidMetH Tryz.prog Rows.sketchHandlesRow.laid w) (fun _ _ _ hh h => h.of_heap hh) own started (by kernel_rfl) Tryz.func4
    (ChangeSpec.witness_at (enc := enc) (C := Tryz.checked) (os := os) (X := fun w _ => laidMetH Tryz.prog Rows.sketchHandlesRow.laid w) false (laidWorld os) #[.slice none 0 0] 8 rfl (by kernel_rfl) (by kernel_rfl) (by kernel_rfl) (by kernel_rfl) (by kernel_rfl) (laid_metH os _)) ?_
  intro W base args ds gs before hval0 hW hcnd _ hL _
  have hval : ∀ (j : Nat) t v, Tryz.f4.params[j]? = some t → args[j]? = some v → Value.okWide Tryz.prog W .any base t v := hval0
  have hW' := hW
  obtain ⟨p, q, hA0, hV, rfl, hfz, hnd⟩ := hW
  have hA : DataW.TrodAll enc Tryz.prog W 0 (fun _ => true) true Tryz.f4.params.toList args.toList ds p := hA0
  rw [Tryz.params4] at hA hval
  obtain ⟨v0, vs0, d0, ds0, p0, q0, hargs, rfl, rfl, h0, r0⟩ := trodAll_cons hA
  obtain ⟨rfl, rfl, rfl⟩ := trodAll_nil r0
  obtain rfl : args = #[v0] := by cases args; simp_all
  obtain ⟨rfl, rfl⟩ := trodVars_none hV
  have k0 := h0
  have lt0 : ∀ x ∈ p0, x.block < W.heap.size := by obtain ⟨m, hm⟩ := k0; exact DataW.trod_lt m _ _ _ hm
  obtain ⟨L0, w0, fl0⟩ : ∃ L : List (List Value), Cells W v0 1 L.length L.flatten ∧ ∀ l ∈ L, Fits [.i .i64] l := by
    obtain ⟨fuel, hf⟩ := h0
    exact open_flats (n := 6) (ks := [.i .i64]) Tryz.underlying54 (by kernel_rfl) (by kernel_rfl) (hval 0 54 v0 rfl rfl) hf
  obtain ⟨xs0, rfl, px0⟩ := decode (enc := fun a : Int => [.int .i64 a]) (p := fun a => (Lit.int .i64 a).wf = true) L0 (fun l hl => by
    have f := fl0 l hl
    obtain ⟨y0, l, rfl, wf0, f⟩ := f.int
    obtain rfl := f.nil
    exact ⟨(y0), rfl, wf0⟩)
  rw [List.length_map] at w0
  clear hA0 hval0
  refine (Am.sh_walk (tabs_of hL rfl rfl) w0 w0.len).mono fun e W' ⟨he, hs⟩ => ?_
  subst he
  have bel := hs.below
  exact ⟨_, rfl, _, _, _, [], _, [], hW', trodAll_mk1 (shut_bool Tryz.underlying4 _), (trodAll_cons_mk (Below.trod laidOut (by kernel_rfl) (of_decide_eq_true (by kernel_rfl)) k0 bel lt0) trodAll_mk0), rfl, bel.frame _, fun h => by cases h⟩

theorem w_named : Tryz.pinned.checked.prog.funcNamed Rows.sketchHandlesRow.func = some 4 := by kernel_rfl
theorem w_inst : Func.isInstance Tryz.pinned.checked.prog Tryz.f4 Rows.sketchHandlesRow.origin Rows.sketchHandlesRow.targs := of_decide_eq_true (by kernel_rfl)
theorem w_wrap : Func.isWrapper Tryz.pinned.checked.prog Tryz.f4 Rows.sketchHandlesRow.wrapper Rows.sketchHandlesRow.mainSum := by unfold Func.isWrapper; first | (rw [if_pos (by decide +kernel)]; kernel_rfl) | (rw [if_neg (by decide +kernel)]; exact ⟨rfl, rfl⟩)
theorem proved : Rows.SketchHandlesSaid :=
  OpenClaim.holds_of_wide 4 Tryz.f4 rfl rfl rfl rfl rfl rfl rfl ⟨rfl, rfl, rfl, rfl, rfl⟩ rfl rfl rfl rfl rfl w_named Tryz.func4 w_joined w_inst w_wrap
    (fun os started H enc _ => lifted os started H enc)
end Go.Proofs.YtpobgdipcbglcaaGreatDoor.sketchHandles
