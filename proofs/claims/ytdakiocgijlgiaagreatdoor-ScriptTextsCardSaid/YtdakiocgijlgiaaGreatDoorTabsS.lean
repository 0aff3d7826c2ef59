/- What the laid variables read as, for the abstract machine: the table of tens, strconv's two errors. -/
import Derived.Test.YtdakiocgijlgiaaGreatDoorLaw
import Derived.Test.YtdakiocgijlgiaaGreatDoorRows
import Derived.OpenShut
import Derived.FnData
import Derived.Stop.LaidErr
namespace Go.Proofs.YtdakiocgijlgiaaGreatDoor
open Go.ChangeShapes Go.WideShapes Go.RowKit

theorem tab_of {P : Program} {w : World} {fuel : Nat} {t e : TypeId} {k : IntKind} {cs : List Value} {zs : List Int} {p : List MemPlace} (ht : P.underlying t = some (.array zs.length e)) (he : P.underlying e = some (.int k)) (hc : P.cellsOf e = 1) (hct : P.cellsOf t = zs.length)
    (h : DataW.trod (fun _ => ()) P w 0 (fun _ => true) false fuel t cs = some (.agg (zs.map fun z => .lit (.int k z)), p)) : cs = zs.map (Value.int k) := by
  obtain ⟨xs, m, -, hx, hl, hn, hi⟩ := DataW.trod_array ht h
  rw [hct] at hl
  simp only [Prod.mk.injEq, DataW.agg.injEq] at hx
  apply List.ext_getElem
  · simp [hl]
  intro i h1 h2
  have hlt : i < zs.length := by simpa using h2
  have h3 := hi i hlt
  rw [hc, Nat.mul_one] at h3
  rw [List.getElem?_eq_getElem (by omega)] at h3
  obtain ⟨n, h4, h5, -⟩ := DataW.trod_int he h3
  have h6 : (xs.map (·.1))[i]? = some (.lit (.int k n)) := by rw [List.getElem?_map, List.getElem?_eq_getElem (by omega), h5]; rfl
  rw [← hx.1, List.getElem?_map, List.getElem?_eq_getElem hlt] at h6
  simp only [Option.map_some, Option.some.injEq, DataW.lit.injEq, Lit.int.injEq, true_and] at h6
  have h7 : (cs.drop i).take 1 = [cs[i]] := by rw [List.drop_eq_getElem_cons h1]; rfl
  rw [h7] at h4
  simp only [List.cons.injEq, and_true] at h4
  rw [h4, List.getElem_map, h6]

/-- the tens -/
def tens : List Int := [1, 10, 100, 1000, 10000, 100000, 1000000, 10000000, 100000000, 1000000000, 10000000000, 100000000000, 1000000000000, 10000000000000, 100000000000000, 1000000000000000, 10000000000000000, 100000000000000000, 1000000000000000000, 10000000000000000000]
theorem tens_data : Rows.laid_internal_strconv_uint64pow10 (H := Unit) = .agg (tens.map fun z => .lit (.int .u64 z)) := rfl
theorem tens_named : Tryz.prog.globalNamed "internal/strconv.uint64pow10" = some 0 := by kernel_rfl
theorem tens_cells {W : World} {r : List (String × DataW Unit)} (h : laidMet Tryz.prog (("internal/strconv.uint64pow10", Rows.laid_internal_strconv_uint64pow10) :: r) W) (i : Nat) (u : Value) (hu : (tens.map (Value.int .u64))[i]? = some u) : W.cell? ⟨0, i, none⟩ = some u := by
  obtain ⟨ps, ⟨g, t, cs, fuel, p, q, h1, h2, h3, h4, -⟩, -⟩ := h
  rw [tens_named] at h1
  obtain rfl := Option.some.inj h1
  have ht : (Tryz.prog.globals[(0 : Nat)]?).map (·.type) = some 254 := by kernel_rfl
  obtain rfl := Option.some.inj (ht.symm.trans h2)
  rw [tens_data] at h4
  have hcs := tab_of (zs := tens) Tryz.underlying254 Tryz.underlying24 (by kernel_rfl) (by kernel_rfl) h4
  rw [World.var?_cell tens_named h3 i, ← Array.getElem?_toList, hcs]
  exact hu
theorem star_err : "*" ++ "errors.errorString" = "*errors.errorString" := by decide
theorem row_err (u : TypeId) (h : Tryz.prog.typeName? 3 u = some "*errors.errorString") : u = 454 :=
  typeName_ptr_named (nm := "errors.errorString") (by rw [star_err]; kernel_rfl) (by kernel_rfl) (by decide) u (by rw [star_err]; exact h)
theorem err_cells {W : World} {n : String} {g : Nat} {text : List UInt8} {r : List (String × DataW Unit)} (h : laidMet Tryz.prog ((n, .iface "*errors.errorString" (.ptr (.agg [.lit (.string text)]))) :: r) W) (hg : Tryz.prog.globalNamed n = some g) (ht : (Tryz.prog.globals[g]?).map (·.type) = some 92) :
    ∃ b o, W.cell? ⟨g, 0, none⟩ = some (.iface 454 (.pointer (some ⟨b, o, none⟩))) ∧ W.cell? ⟨b, o, none⟩ = some (.string ⟨text.toArray⟩) := by
  obtain ⟨a, s, h1, h2, h3, -⟩ := laid_sentinel h hg ht Tryz.underlying92 row_err Tryz.underlying454 Tryz.underlying456 rfl rfl Tryz.underlying9 (by kernel_rfl) (by kernel_rfl)
  have h0 := World.var?_cell hg h1 0
  obtain ⟨b, o, sp⟩ := a
  cases sp with
  | some k =>
    unfold World.cell? at h2
    split at h2
    · simp at h2
    · cases h2
  | none =>
    refine ⟨b, o, h0, ?_⟩
    rw [h2]
    congr 1
    subst h3
    rfl
theorem syn_named : Tryz.prog.globalNamed "strconv.ErrSyntax" = some 6 := by kernel_rfl
theorem rng_named : Tryz.prog.globalNamed "strconv.ErrRange" = some 7 := by kernel_rfl
theorem syn_type : (Tryz.prog.globals[(6 : Nat)]?).map (·.type) = some 92 := by kernel_rfl
theorem rng_type : (Tryz.prog.globals[(7 : Nat)]?).map (·.type) = some 92 := by kernel_rfl
theorem tabs_of {W : World} {a b c d : String × DataW Unit} (h : laidMet Tryz.prog [a, b, ("internal/strconv.uint64pow10", Rows.laid_internal_strconv_uint64pow10), c, ("strconv.ErrRange", Rows.laid_strconv_ErrRange), ("strconv.ErrSyntax", Rows.laid_strconv_ErrSyntax), d] W) : Am.Tabs (Am.memW W) :=
  have h3 := h.tail.tail
  have h5 := h3.tail.tail
  Am.tabsS (tens_cells h3) (err_cells h5.tail syn_named syn_type) (err_cells h5 rng_named rng_type)
end Go.Proofs.YtdakiocgijlgiaaGreatDoor
