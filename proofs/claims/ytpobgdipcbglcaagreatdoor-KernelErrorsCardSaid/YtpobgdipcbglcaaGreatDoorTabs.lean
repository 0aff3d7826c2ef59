/- What the laid table of tens reads as, for the abstract machine. -/
import Derived.Test.YtpobgdipcbglcaaGreatDoorLaw
import Derived.Test.YtpobgdipcbglcaaGreatDoorRows
import Derived.OpenShut
import Derived.FnData
namespace Go.Proofs.YtpobgdipcbglcaaGreatDoor
open Go.ChangeShapes Go.WideShapes Go.RowKit

theorem tab_of {P : Program} {w : World} {fuel : Nat} {t e : TypeId} {k : IntKind} {cs : List Value} {zs : List Int} {p : List MemPlace} (ht : P.underlying t = some (.array zs.length e)) (he : P.underlying e = some (.int k)) (hc : P.cellsOf e = 1) (hct : P.cellsOf t = zs.length)
    (h : DataW.trod (fun _ => ()) P w 0 (fun _ => true) false fuel t cs = some (.agg (zs.map fun z => .lit (.int k z)), p)) : cs = zs.map (Value.int k) := by
  obtain ⟨xs, m, -, hx, hl, hn, hi⟩ := DataW.trod_array ht h
  rw [hct] at hl
  simp only [Prod.mk.injEq, DataW.agg.injEq] at hx
  apply List.ext_getElem
  · simp [hl]
  intro i h1 h2
  have hlt : i < zs.length := by simpa using h2
  have h3 := hi i hlt
  rw [hc, Nat.mul_one] at h3
  rw [List.getElem?_eq_getElem (by omega)] at h3
  obtain ⟨n, h4, h5, -⟩ := DataW.trod_int he h3
  have h6 : (xs.map (·.1))[i]? = some (.lit (.int k n)) := by rw [List.getElem?_map, List.getElem?_eq_getElem (by omega), h5]; rfl
  rw [← hx.1, List.getElem?_map, List.getElem?_eq_getElem hlt] at h6
  simp only [Option.map_some, Option.some.injEq, DataW.lit.injEq, Lit.int.injEq, true_and] at h6
  have h7 : (cs.drop i).take 1 = [cs[i]] := by rw [List.drop_eq_getElem_cons h1]; rfl
  rw [h7] at h4
  simp only [List.cons.injEq, and_true] at h4
  rw [h4, List.getElem_map, h6]

/-- the tens -/
def tens : List Int := [1, 10, 100, 1000, 10000, 100000, 1000000, 10000000, 100000000, 1000000000, 10000000000, 100000000000, 1000000000000, 10000000000000, 100000000000000, 1000000000000000, 10000000000000000, 100000000000000000, 1000000000000000000, 10000000000000000000]
theorem tens_data : Rows.laid_internal_strconv_uint64pow10 (H := Unit) = .agg (tens.map fun z => .lit (.int .u64 z)) := rfl
theorem tens_named : Tryz.prog.globalNamed "internal/strconv.uint64pow10" = some 2 := by kernel_rfl
theorem laid_last {P : Program} {W : World} {a b : String × DataW Unit} {n : String} {d : DataW Unit} (h : laidMetH P [a, b, (n, d)] W) (ha : a.2.handleName? = none) (hb : b.2.handleName? = none) (hd : d.handleName? = none) :
    ∃ g t cs fuel p, P.globalNamed n = some g ∧ (P.globals[g]?).map (·.type) = some t ∧ W.var? P n = some cs ∧ DataW.trod (fun _ => ()) P W 0 (fun _ => true) false fuel t cs.toList = some (d, p) := by
  unfold laidMetH at h
  simp only [List.filter_cons, ha, hb, hd, Option.isSome_none, Bool.false_eq_true, if_false, List.filter_nil] at h
  obtain ⟨ps, hv, -⟩ := h
  obtain ⟨_, _, _, _, _, _, _, _, _, _, hv, _⟩ := hv
  obtain ⟨_, _, _, _, _, _, _, _, _, _, hv, _⟩ := hv
  obtain ⟨g, t, cs, fuel, p, _, h1, h2, h3, h4, _⟩ := hv
  exact ⟨g, t, cs, fuel, p, h1, h2, h3, h4⟩
theorem tabs_of {W : World} {a b : String × DataW Unit} (h : laidMetH Tryz.prog [a, b, ("internal/strconv.uint64pow10", Rows.laid_internal_strconv_uint64pow10)] W) (ha : a.2.handleName? = none) (hb : b.2.handleName? = none) : Am.Tabs (Am.memW W) := by
  obtain ⟨g, t, cs, fuel, p, h1, h2, h3, h4⟩ := laid_last h ha hb rfl
  rw [tens_named] at h1
  obtain rfl := Option.some.inj h1
  have ht : (Tryz.prog.globals[(2 : Nat)]?).map (·.type) = some 512 := by kernel_rfl
  obtain rfl := Option.some.inj (ht.symm.trans h2)
  rw [tens_data] at h4
  have hcs := tab_of (zs := tens) Tryz.underlying512 Tryz.underlying22 (by kernel_rfl) (by kernel_rfl) h4
  have hcell : ∀ i, W.cell? ⟨2, i, none⟩ = cs[i]? := fun i => World.var?_cell tens_named h3 i
  refine Am.tabsIn Am.tabAll ?_ fun i u hu => ?_
  · have h0 := hcell 0
    have h5 : cs[0]? = some (.int .u64 1) := by rw [← Array.getElem?_toList, hcs]; rfl
    rw [h5] at h0
    rcases Nat.lt_or_ge 2 W.heap.size with h6 | h6
    · exact h6
    · unfold World.cell? at h0
      rw [Array.getElem?_eq_none h6] at h0
      cases h0
  · rw [hcell, ← Array.getElem?_toList, hcs]; exact hu
end Go.Proofs.YtpobgdipcbglcaaGreatDoor
