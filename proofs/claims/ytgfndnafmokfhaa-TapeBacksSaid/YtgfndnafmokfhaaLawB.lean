/- The law TapeBacks: walked. -/
import Derived.Test.YtgfndnafmokfhaaAwake9
namespace Go.Proofs.Ytgfndnafmokfhaa
open Go.RowKit

/-- the coins that were told, from n on -/
def told (cs : List Bool) (n i : Nat) : List Bool := (List.range i).map fun j => cs.getD (n + j) false
theorem told_len (cs : List Bool) (n i : Nat) : (told cs n i).length = i := by simp [told]
theorem told_succ (cs : List Bool) (n i : Nat) : told cs n (i + 1) = told cs n i ++ [cs.getD (n + i) false] := by simp [told, List.range_succ]
theorem told_get (cs : List Bool) (n i j : Nat) (h : j < i) : (told cs n i)[j]? = some (cs.getD (n + j) false) := by simp [told, h]

set_option maxRecDepth 100000 in
theorem backs_walk {w : World} {va : Value} {xs : List Bool} {n m : Int} (ha : Bools w va xs) :
    Calls Try.prog 4 #[va, .int .i64 n, .int .i64 m] w fun e w' => e = .returned (.bool true) ∧ Same w w' := by
  go_enter Try.func4, Try.ntmps4
  go_wp2_with fail
  refine (awake_any _).mono ?_
  rintro e w1 ⟨rfl, hs1⟩
  go_wp2_with fail
  refine (few_sh _ _ xs 200 (ha.same hs1) (by omega)).mono ?_
  rintro e w2 ⟨pa, ca, cs, rfl, ha', hal, hao, Hx, rfl⟩
  clear ha hao Hx xs
  go_upto_region 4 with fail
  go_cut [1, 2] (fun s t wx => (∃ n : Nat, s = .int .i64 n ∧ n ≤ 300) ∧ (∃ m : Nat, t = .int .i64 m ∧ m ≤ 300) ∧ wx = w1)
  case first =>
    go_wp2
    all_goals
      go_meet
      exact ⟨nat_of _ (by omega) (by omega), nat_of _ (by omega) (by omega), rfl⟩
  case rest =>
    clear n m
    obtain ⟨⟨n, rfl, hn⟩, ⟨m, rfl, hm⟩, rfl⟩ := hcut
    go_wp2_with fail
    refine (new_few _ _ cs ha' (by omega)).mono ?_
    rintro e w2 ⟨b, v, rfl, hb, hv, ht, hs⟩
    have hs2 := hs1.same hs
    have hbw : w.heap.size ≤ b := by have := hs1.size; omega
    clear hs1 hs hb ha'
    go_wp2_with fail
    go_loopw [29] (fun s wr => ∃ i : Nat, i ≤ n ∧ s = .int .i64 i ∧ TapeRun wr b v cs i ∧ Same w wr) (fun s _ => n - (intOf s).toNat)
    case atStart => exact ⟨0, Nat.zero_le _, rfl, TapeRun.zero ht, hs2⟩
    case round =>
      obtain ⟨i, hi, rfl, hx, hs⟩ := hrel
      obtain ⟨wa, rfl⟩ : ∃ wa : World, wa = wr := ⟨_, rfl⟩
      by_cases hin : i < n
      · obtain ⟨bit, Hb⟩ : ∃ bit, Hid (cs.getD i false = bit) := ⟨_, rfl⟩
        go_wp2_with fail
        refine (flip_run _ b v cs i hx bit Hb).mono ?_
        rintro e w3 ⟨⟨z, rfl, _⟩, hx2, hs3⟩
        have hs4 := hs.trans hs3 (fun k hk e => by omega)
        go_wp2
        go_roundw
        case rel => exact ⟨i + 1, by omega, by go_num, hx2, hs4⟩
        case measure => simp [intOf]; omega
      · have : i = n := by omega
        subst this
        clear hs2 ht
        go_wp2_with fail
        refine (mark_any _ b v _ _ _ hx).mono ?_
        rintro e w3 ⟨rfl, rfl⟩
        have hkl : min i cs.length ≤ cs.length := Nat.min_le_right _ _
        obtain ⟨k, hk⟩ : ∃ k, Hid (k = min i cs.length) := ⟨_, rfl⟩
        rw [← hk.out] at hkl ⊢
        have hvk := hx.2.1.lt
        go_wp2_with fail
        go_loopw [9, 37] (fun s t wr' => ∃ j : Nat, ∃ p c, j ≤ m ∧ t = .int .i64 j ∧ s = .slice p j c ∧ wr'.ownsRow wa.heap.size 4 1 (.slice p j c) j ((told cs i j).map .bool) ∧ TapeRun wr' b v cs (i + j) ∧ Same w wr' ∧ wa.heap.size ≤ wr'.heap.size) (fun _ t _ => m - (intOf t).toNat)
        case atStart => exact ⟨0, none, 0, Nat.zero_le _, rfl, rfl, World.ownsRow_nil _ _ _ _, hx, hs, Nat.le_refl _⟩
        case round =>
          obtain ⟨j, p, c, hj, rfl, rfl, hown, hxj, hsj, hsz⟩ := hrel
          by_cases hjm : j < m
          · obtain ⟨bit, Hb⟩ : ∃ bit, Hid (cs.getD (i + j) false = bit) := ⟨_, rfl⟩
            go_wp2_with fail
            refine (flip_run _ b v cs (i + j) hxj bit Hb).mono ?_
            rintro e w3 ⟨⟨z, rfl, _⟩, hx2, hs3⟩
            have hs4 := hsj.trans hs3 (fun k hk e => by omega)
            have hbk := hx.lt
            have hvb := hx.2.1.lt
            have hown3 : w3.ownsRow wa.heap.size 4 1 (.slice p j c) j ((told cs i j).map .bool) := ownsRow_ext hown hs3 (fun k hk e => by have := (hown.lt k hk).1; omega)
            have hown4 := hown3.alloc (.cells #[.bool bit] 4)
            have hsz3 := hs3.size
            clear hown hown3
            go_wp2_with (at_builtin; go_loud (refine wpList_append_cells rfl _ _ 22 rfl wa.heap.size 4 (.bool false) 1 1 Try.underlying22 bool_info rfl (by decide) (.slice p j c) j ((told cs i j).map .bool) rfl hown4 (.slice (some ⟨w3.heap.size, 0, none⟩) 1 1) 1 [.bool bit] rfl (Cells.one _ _ _) (bools_oneCell [bit]) (by unfold maxLen; omega) (by omega) (by simp; omega) ?_))
            intro v5 w5 hown5 hg5
            obtain ⟨p5, c5, hv5⟩ := ownsRow_shape hown5
            rw [hv5] at hown5 ⊢
            have hb5 : Hid (w5.ownsRow wa.heap.size 4 1 (.slice p5 (j + 1) c5) (j + 1) ((told cs i (j + 1)).map .bool)) := by
              show World.ownsRow _ _ _ _ _ _ _
              rw [told_succ, List.map_append, Hb.out]; exact hown5
            have hrow : ∀ k, (Value.slice p j c).ownBlock = some k → wa.heap.size ≤ k := fun k hk => (hown4.lt k hk).1
            have hxx : TapeRun w5 b v cs (i + (j + 1)) := hx2.ext (Ext.grown ((Ext.refl (fun k => wa.heap.size ≤ k) w3).alloc _) hg5 (fun k hk _ => hrow k hk)) (by omega) (fun k hk => by have := hvb k hk; omega)
            have hss : Same w w5 := (hs4.alloc _).grown hg5 (fun k hk h => by have := hrow k hk; have := hs.size; omega)
            have hz5 : wa.heap.size ≤ w5.heap.size := by have := hg5.size; simp at this; omega
            clear hown5 hv5 hg5 hown4 hrow
            go_wp2
            go_roundw
            case rel => exact ⟨j + 1, p5, c5, by omega, by go_num, by first | rfl | simp, hb5.out, hxx, hss, hz5⟩
            case measure => simp [intOf]; omega
          · have : j = m := by omega
            subst this
            go_wp2_with fail
            have hkc : k ≤ cs.length := hkl
            refine (back_ok _ b v cs _ _ hxj k ?_).mono ?_
            · have := hk.out; omega
            rintro e w3 ⟨rfl, hx3, hs3⟩
            have hs4 := hsj.trans hs3 (fun k hk e => by omega)
            have hown3 : w3.ownsRow wa.heap.size 4 1 (.slice p j c) j ((told cs i j).map .bool) := ownsRow_ext hown hs3 (fun k hk e => by have := hx.lt; have := (hown.lt k hk).1; omega)
            clear hown hs3 hsj
            go_wp2_with fail
            refine (dead_any _ b v _ _ _ hx3).mono ?_
            rintro e w4 ⟨rfl, rfl⟩
            go_wp2_with fail
            refine (read_any _ b v _ _ _ hx3).mono ?_
            rintro e w4 ⟨rfl, rfl⟩
            go_wp2_with fail
            refine (left_any _ b v _ _ _ hx3).mono ?_
            rintro e w4 ⟨rfl, nd, rfl⟩
            simp only [Bool.false_eq_true, if_false]
            have hx4 := hx3.drewN nd
            have hs5 := hs4.drewN nd
            have hown5 : (w3.drewN nd).ownsRow wa.heap.size 4 1 (.slice p j c) j ((told cs i j).map .bool) := hown3
            generalize w3.drewN nd = w4 at *
            clear hx3 hs4 hown3
            go_wp2_with fail
            refine (back_no _ b v cs _ _ hx4 ((k : Int) + 1) (Or.inr (by omega))).mono ?_
            rintro e w5 ⟨rfl, rfl⟩
            go_wp2_with fail
            have hr0 : TapeRun w4 b v cs k := by
              unfold TapeRun
              rw [Nat.min_eq_left hkc, decide_eq_false (by omega)]; exact hx4
            have hxl := hx4.lt
            go_loopw [81] (fun t wr' => ∃ q : Nat, q ≤ j ∧ t = .int .i64 q ∧ wr'.ownsRow wa.heap.size 4 1 (.slice p j c) j ((told cs i j).map .bool) ∧ TapeRun wr' b v cs (k + q) ∧ Same w wr') (fun t _ => j - (intOf t).toNat)
            case atStart => exact ⟨0, Nat.zero_le _, rfl, hown5, hr0, hs5⟩
            case round =>
              obtain ⟨q, hq, rfl, hown6, hx6, hs6⟩ := hrel
              by_cases hqj : q < j
              · obtain ⟨bit, Hb⟩ : ∃ bit, Hid (cs.getD (k + q) false = bit) := ⟨_, rfl⟩
                obtain ⟨g, hg⟩ : ∃ g, p = some ⟨g, 0, none⟩ := by
                  rcases hown6.2 with ⟨he, h0⟩ | ⟨g, cap, cur, he, _⟩
                  · omega
                  · simp at he; exact ⟨g, he.1⟩
                subst hg
                have hcell : wr.cell? ⟨g, q, none⟩ = some (.bool bit) := by
                  rw [hown6.cellAt q (by omega)]
                  simp only [List.getElem?_map, told_get cs i j q hqj, Option.map_some]
                  rw [← Hb.out, hk.out]
                  congr 2
                  by_cases hic : i ≤ cs.length
                  · rw [Nat.min_eq_left hic]
                  · rw [Nat.min_eq_right (by omega)]
                    simp [List.getD, List.getElem?_eq_none (show cs.length ≤ i + q by omega)]
                go_wp2_with fail
                refine (flip_run _ b v cs (k + q) hx6 bit Hb).mono ?_
                rintro e w3 ⟨⟨z, rfl, _⟩, hx2, hs3⟩
                have hs7 := hs6.trans hs3 (fun k hk e => by omega)
                have hown7 : w3.ownsRow wa.heap.size 4 1 (.slice (some ⟨g, 0, none⟩) j c) j ((told cs i j).map .bool) := ownsRow_ext hown6 hs3 (fun k hk e => by have := hx.lt; have := (hown6.lt k hk).1; omega)
                clear hown6 hown5 hs3 hs6 hs5
                go_wp2
                go_roundw
                case rel => exact ⟨q + 1, by omega, by go_num, hown7, hx2, hs7⟩
                case measure => simp [intOf]; omega
              · have : q = j := by omega
                subst this
                go_wp2
                all_goals
                  go_ret
                  refine ⟨ret_true ?_, hs6⟩
                  have := hk.out
                  simp
                  omega

end Go.Proofs.Ytgfndnafmokfhaa
