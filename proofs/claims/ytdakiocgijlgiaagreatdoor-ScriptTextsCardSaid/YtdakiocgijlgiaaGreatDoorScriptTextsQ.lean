/- The law ScriptTexts returns true, whatever the input, and leaves the input as it was. -/
import Derived.Test.YtdakiocgijlgiaaGreatDoorLaw
import Derived.Test.YtdakiocgijlgiaaGreatDoorScriptTextsI
import Derived.Test.YtdakiocgijlgiaaGreatDoorFlat
import Derived.Test.YtdakiocgijlgiaaGreatDoorShape
import Derived.Test.YtdakiocgijlgiaaGreatDoorNest
import Derived.Test.YtdakiocgijlgiaaGreatDoorTabsS
import Derived.Test.YtdakiocgijlgiaaGreatDoorCards
import Derived.Test.YtdakiocgijlgiaaGreatDoorTie
import Derived.SevenTiedAt
import Derived.LaidLaws
import Derived.LaidHandle
import Derived.Handed
import Derived.Deep.DeepLaidRun
import Derived.ChangeMaps5
import Derived.Test.YtdakiocgijlgiaaGreatDoorOpen
namespace Go.Proofs.YtdakiocgijlgiaaGreatDoor.scriptTexts
open Go.ChangeShapes Go.WideShapes Go.ChangeAt Go.RowKit

/-- the cells of plain data -/
def cellsAs : DataW Unit → Array Value
  | .agg l => (l.flatMap fun x => match x with
    | .lit (.int k n) => [Value.int k n]
    | .agg r => r.map fun y => match y with
      | .lit (.int k n) => Value.int k n
      | _ => .bool false
    | _ => [.bool false]).toArray
  | _ => #[]
def lay (d : DataW Unit) : Obj → Obj
  | .cells _ t frozen => .cells (cellsAs d) t frozen
  | o => o
noncomputable def low : Nat := (World.holding Tryz.prog default ⟨#[], #[], []⟩).heap.size
/-- A world that meets the condition: the settled one, the tables laid. -/
noncomputable def laidWorld (os : Os) : World :=
  let w0 := World.holding Tryz.prog os ⟨#[.cells #[.string ⟨#[105, 110, 118, 97, 108, 105, 100, 32, 115, 121, 110, 116, 97, 120]⟩] 456, .cells #[.string ⟨#[118, 97, 108, 117, 101, 32, 111, 117, 116, 32, 111, 102, 32, 114, 97, 110, 103, 101]⟩] 456], #[], []⟩
  { w0 with heap := ((((((w0.heap.modify 0 (lay Rows.laid_internal_strconv_uint64pow10)).modify 8 (lay Rows.laid_math_bits_deBruijn32tab)).modify 9 (lay Rows.laid_math_bits_deBruijn64tab)).modify 5 (lay Rows.laid_unicode_utf8_acceptRanges)).modify 4 (lay Rows.laid_unicode_utf8_first)).modify 6 (fun
      | .cells _ t frozen => .cells #[.iface 454 (.pointer (some ⟨low, 0, none⟩))] t frozen
      | o => o)).modify 7 (fun
      | .cells _ t frozen => .cells #[.iface 454 (.pointer (some ⟨low + 1, 0, none⟩))] t frozen
      | o => o) }

set_option maxRecDepth 100000 in
theorem laid_met (os : Os) (args : Array Value) : laidMet Tryz.prog Rows.scriptTextsRow.laid ((laidWorld os).forCall (fun _ _ => 0) ⟨#[], args, []⟩).memory :=
  laidMet_of_run3 8 (by kernel_rfl) (by kernel_rfl) (by kernel_rfl)
theorem laid_metH (os : Os) (args : Array Value) : laidMetH Tryz.prog Rows.scriptTextsRow.laid ((laidWorld os).forCall (fun _ _ => 0) ⟨#[], args, []⟩).memory :=
  laid_met os args

set_option maxRecDepth 100000 in
theorem lifted (os : Os) (started : os.Started) (H : Type) (enc : TypeId × Value → H) :
    ReturnsInHanded {} Tryz.checked os 4 .any (fun w args => (Rows.scriptTextsSpec.pre enc Tryz.prog Tryz.f4 Rows.scriptTextsRow.domain false w args ∧ laidMetH Tryz.prog Rows.scriptTextsRow.laid w) ∧ sizedMet enc Tryz.prog Tryz.f4 (OpenSpec.ofChange Rows.scriptTextsSpec) false w args) (Rows.scriptTextsSpec.post enc Tryz.prog Tryz.f4 false true false false) := by
  refine returnsInHanded_of_change_and (C := Tryz.checked) (X := fun w _ => laidMetH Tryz.prog Rows.scriptTextsRow.laid w) (fun _ _ _ hh h => h.of_heap hh) own started (by kernel_rfl) Tryz.func4
    (ChangeSpec.witness_at (enc := enc) (C := Tryz.checked) (os := os) (X := fun w _ => laidMetH Tryz.prog Rows.scriptTextsRow.laid w) false (laidWorld os) #[.slice none 0 0] 8 rfl (by kernel_rfl) (by kernel_rfl) (by kernel_rfl) (by kernel_rfl) (by kernel_rfl) (laid_metH os _)) ?_
  intro W base args ds gs before hval0 hW hcnd _ hL _
  have hval : ∀ (j : Nat) t v, Tryz.f4.params[j]? = some t → args[j]? = some v → Value.okWide Tryz.prog W .any base t v := hval0
  have hW' := hW
  obtain ⟨p, q, hA0, hV, rfl, hfz, hnd⟩ := hW
  have hA : DataW.TrodAll enc Tryz.prog W 0 (fun _ => true) true Tryz.f4.params.toList args.toList ds p := hA0
  rw [Tryz.params4] at hA hval
  obtain ⟨v0, vs0, d0, ds0, p0, q0, hargs, rfl, rfl, h0, r0⟩ := trodAll_cons hA
  obtain ⟨rfl, rfl, rfl⟩ := trodAll_nil r0
  obtain rfl : args = #[v0] := by cases args; simp_all
  obtain ⟨rfl, rfl⟩ := trodVars_none hV
  have k0 := h0
  have lt0 : ∀ x ∈ p0, x.block < W.heap.size := by obtain ⟨m, hm⟩ := k0; exact DataW.trod_lt m _ _ _ hm
  obtain ⟨L0, w0, e0⟩ : ∃ L : List (List Value), Cells W v0 8 L.length L.flatten ∧ ∀ l ∈ L, Am.CmdIn W l := by
    obtain ⟨fuel, hf⟩ := h0
    obtain ⟨L, w, fl⟩ := open_shapes (n := 6) (ks := [.i .i64, .i .i64, .i .i64, .i .i64, .i .i64, .i .u64, .s 25, .s 26]) Tryz.underlying45 (by kernel_rfl) (by kernel_rfl) (hval 0 45 v0 rfl rfl) hf
    refine ⟨L, w, fun l hl => ?_⟩
    have f := fl l hl
    clear hl
    obtain ⟨y0, l, rfl, wf0, f⟩ := f.int
    obtain ⟨y1, l, rfl, wf1, f⟩ := f.int
    obtain ⟨y2, l, rfl, wf2, f⟩ := f.int
    obtain ⟨y3, l, rfl, wf3, f⟩ := f.int
    obtain ⟨y4, l, rfl, wf4, f⟩ := f.int
    obtain ⟨y5, l, rfl, wf5, f⟩ := f.int
    obtain ⟨sN, l, rfl, ⟨mN, yN, tN⟩, f⟩ := f.slice
    obtain ⟨sB, l, rfl, ⟨mB, yB, tB⟩, f⟩ := f.slice
    obtain rfl := f.nil
    obtain ⟨ns, n1, n2⟩ := open_nest Tryz.underlying25 Tryz.underlying3 (by kernel_rfl) (fun _ => rfl) tN
    obtain ⟨bs, b1, b2⟩ := open_nest Tryz.underlying26 Tryz.underlying5 (by kernel_rfl) (fun _ => rfl) tB
    exact ⟨y0, y1, y2, y3, y4, y5, sN, sB, ns, bs, rfl, wf0, wf1, wf2, wf3, wf4, wf5, n1, n2, b1, b2⟩
  clear hA0 hval0
  refine (Am.st_walk (tabs_of hL) w0 e0).mono fun e W' ⟨he, hs⟩ => ?_
  subst he
  have bel := hs.below
  exact ⟨_, rfl, _, _, _, [], _, [], hW', trodAll_mk1 (shut_bool Tryz.underlying4 _), (trodAll_cons_mk (Below.trod laidOut (by kernel_rfl) (of_decide_eq_true (by kernel_rfl)) k0 bel lt0) trodAll_mk0), rfl, bel.frame _, fun h => by cases h⟩

theorem w_named : Tryz.pinned.checked.prog.funcNamed Rows.scriptTextsRow.func = some 4 := by kernel_rfl
theorem w_inst : Func.isInstance Tryz.pinned.checked.prog Tryz.f4 Rows.scriptTextsRow.origin Rows.scriptTextsRow.targs := of_decide_eq_true (by kernel_rfl)
theorem w_wrap : Func.isWrapper Tryz.pinned.checked.prog Tryz.f4 Rows.scriptTextsRow.wrapper Rows.scriptTextsRow.mainSum := by unfold Func.isWrapper; first | (rw [if_pos (by decide +kernel)]; kernel_rfl) | (rw [if_neg (by decide +kernel)]; exact ⟨rfl, rfl⟩)
theorem proved : Rows.ScriptTextsSaid :=
  OpenClaim.holds_of_wide 4 Tryz.f4 rfl rfl rfl rfl rfl rfl rfl ⟨rfl, rfl, rfl, rfl, rfl⟩ rfl rfl rfl rfl rfl w_named Tryz.func4 w_joined w_inst w_wrap
    (fun os started H enc _ => lifted os started H enc)
end Go.Proofs.YtdakiocgijlgiaaGreatDoor.scriptTexts
