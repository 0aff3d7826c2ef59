/- Layer 9's fixed fact; tapes of few coins. -/
import Derived.Test.YtfcamaiehepinaaTapeB
import Derived.Deep.DeepCutAuto
namespace Go.Proofs.Ytfcamaiehepinaa
open Go.RowKit

theorem min_cap (cs : List Bool) (h : cs.length ≤ 1048576) : cs.take 1048576 = cs := List.take_of_length_le h

/-- New, of few coins. -/
theorem new_few (w : World) (v : Value) (cs : List Bool) (hv : Bools w v cs) (hl : cs.length ≤ 1048576) :
    Calls Try.prog 13 #[v] w fun e w' => ∃ b v', e = .returned (.pointer (some ⟨b, 0, none⟩)) ∧ w.heap.size ≤ b ∧ (∀ k, v'.ownBlock = some k → w.heap.size ≤ k) ∧ TapeAt w' b v' cs 0 false ∧ Same w w' := by
  have := new_any w v cs hv
  rwa [min_cap cs hl] at this

/-- awake: true. -/
theorem awake_any (w : World) : Calls Try.prog 11 #[] w fun e w' => e = .returned (.bool true) ∧ Same w w' := by
  have hb : Bools (w.alloc (.cells #[.bool true] 4)) (.slice (some ⟨w.heap.size, 0, none⟩) 1 1) [true] := by
    refine ⟨rfl, _, 1, rfl, Nat.le_refl _, by unfold maxLen; omega, .inr ⟨_, _, rfl, by simp, fun i u hi => ?_⟩⟩
    rw [Nat.zero_add, World.cell?_alloc_new]
    simpa using hi
  go_enter Try.func11, Try.ntmps11
  go_wp2_with fail
  refine (new_few _ _ [true] hb (by decide)).mono ?_
  rintro e w1 ⟨b, v', rfl, hb1, hv1, ht, hs⟩
  have hs1 : Same w w1 := ((Ext.refl _ w).alloc _).same hs
  have hbw : w.heap.size ≤ b := by simp at hb1; omega
  clear hb hs hb1 hv1
  go_wp2_with fail
  refine (flip_ok _ b v' [true] 0 ht (by decide)).mono ?_
  rintro e w2 ⟨rfl, ht2, hs2⟩
  have hs3 : Same w w2 := hs1.trans hs2 (fun i hi e => by omega)
  clear hs1 hs2
  go_wp2_with fail
  refine (flip_no _ b v' [true] 1 false ht2 (Or.inr rfl)).mono ?_
  rintro e w3 ⟨rfl, ht3, hs2⟩
  have hs4 : Same w w3 := hs3.trans hs2 (fun i hi e => by omega)
  clear hs3 hs2
  go_wp2_with fail
  refine (dead_any _ b v' [true] 1 true ht3).mono ?_
  rintro e w4 ⟨rfl, rfl⟩
  go_wp2_with fail
  refine (read_any _ b v' [true] 1 true ht3).mono ?_
  rintro e w4 ⟨rfl, rfl⟩
  go_wp2
  go_ret
  exact ⟨rfl, hs4⟩

end Go.Proofs.Ytfcamaiehepinaa
