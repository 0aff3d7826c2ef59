/- Bytes and bits: the reference's Bits, the tape's FromBytes. -/
import Derived.Test.YtgfndnafmokfhaaAwake9
import Derived.Deep.DeepCutAuto
namespace Go.Proofs.Ytgfndnafmokfhaa
open Go.RowKit

/-- A slice of numbers of one kind. -/
abbrev Ints (k : IntKind) (w : World) (v : Value) (zs : List Int) : Prop := Cells w v 1 zs.length (zs.map (.int k))

/-- bit q of the bits of bytes, the highest first -/
def bitAt (zs : List Int) (q : Nat) : Bool := (zs.getD (q / 8) 0 / 2 ^ (7 - q % 8)).tmod 2 == 1
def bitsTo (zs : List Int) (n : Nat) : List Bool := (List.range n).map (bitAt zs)
theorem bitsTo_len (zs : List Int) (n : Nat) : (bitsTo zs n).length = n := by simp [bitsTo]
theorem bitsTo_succ (zs : List Int) (n : Nat) : bitsTo zs (n + 1) = bitsTo zs n ++ [bitAt zs n] := by simp [bitsTo, List.range_succ]

theorem and1_u8 (x : Int) (h0 : 0 ≤ x) (h1 : x < 256) : bits BinOp.and IntKind.u8 x 1 = x.tmod 2 := by
  have h := bits_mask .u8 8 (by decide) wraps_u8 1 (by decide) x h0 (by simpa using h1)
  rw [Int.tmod_eq_emod_of_nonneg h0]
  simpa using h

theorem Ints.cell {k : IntKind} {w : World} {b o n c : Nat} {zs : List Int} (h : Cells w (.slice (some ⟨b, o, none⟩) n c) 1 zs.length (zs.map (.int k))) (i : Nat) (hi : i < zs.length) : w.cell? ⟨b, o + i, none⟩ = some (.int k (zs.getD i 0)) := by
  obtain ⟨h1, p, cap, he, h2, h3, h4⟩ := h
  simp at he
  obtain ⟨rfl, rfl, rfl⟩ := he
  rcases h4 with ⟨h4, _⟩ | ⟨b', o', h4, _, hc⟩
  · cases h4
  · simp at h4
    obtain ⟨rfl, rfl⟩ := h4
    exact hc i _ (by simp [hi])

set_option maxRecDepth 100000 in
theorem bits_any (w : World) (p : Option Addr) (c : Nat) (zs : List Int) (hz : Ints .u8 w (.slice p zs.length c) zs) (hb : ∀ z ∈ zs, 0 ≤ z ∧ z < 256) (hl : zs.length ≤ 1000) :
    Calls Try.prog 19 #[.slice p zs.length c] w fun e w' => ∃ p' c', e = .returned (.slice p' (8 * zs.length) c') ∧ w'.ownsRow w.heap.size 4 1 (.slice p' (8 * zs.length) c') (8 * zs.length) ((bitsTo zs (8 * zs.length)).map .bool) ∧ Same w w' := by
  go_enter Try.func19, Try.ntmps19
  go_wp2_with fail
  go_loopw [3, 4] (fun s t wr => ∃ i : Nat, ∃ p' c', i ≤ zs.length ∧ t = .int .i64 i ∧ s = .slice p' (8 * i) c' ∧ wr.ownsRow w.heap.size 4 1 (.slice p' (8 * i) c') (8 * i) ((bitsTo zs (8 * i)).map .bool) ∧ Same w wr) (fun _ t _ => zs.length - (intOf t).toNat)
  case atStart => exact ⟨0, none, 0, Nat.zero_le _, rfl, rfl, World.ownsRow_nil _ _ _ _, Ext.refl _ _⟩
  case round =>
    obtain ⟨i, p', c', hi, rfl, rfl, hown, hs⟩ := hrel
    obtain ⟨wa, rfl⟩ : ∃ wa : World, wa = wr := ⟨_, rfl⟩
    by_cases hlt : i < zs.length
    · obtain ⟨b, o, rfl⟩ : ∃ b o, p = some ⟨b, o, none⟩ := by
        obtain ⟨h1, q, cap, he, h2, h3, h4⟩ := hz
        simp at he
        rcases h4 with ⟨_, h4, _⟩ | ⟨b, o, h4, _⟩
        · omega
        · exact ⟨b, o, by rw [he.1, h4]⟩
      have hcell := Ints.cell hz i hlt
      obtain ⟨z, Hz⟩ : ∃ z, Hid (zs.getD i 0 = z) := ⟨_, rfl⟩
      have hzr : 0 ≤ z ∧ z < 256 := by
        rw [← Hz.out]
        apply hb
        simp [hlt]
      obtain ⟨hz0, hz1⟩ := hzr
      rw [Hz.out] at hcell
      go_wp2_with fail
      go_loopw [3, 5] (fun s t wr => ∃ j : Nat, ∃ p' c', j ≤ 8 ∧ t = .int .i64 (7 - (j : Int)) ∧ s = .slice p' (8 * i + j) c' ∧ wr.ownsRow w.heap.size 4 1 (.slice p' (8 * i + j) c') (8 * i + j) ((bitsTo zs (8 * i + j)).map .bool) ∧ Same w wr) (fun _ t _ => (intOf t + 1).toNat)
      case atStart => exact ⟨0, p', c', by omega, rfl, rfl, hown, hs⟩
      case round =>
        obtain ⟨j, p2, c2, hj, rfl, rfl, hown2, hs2⟩ := hrel
        have hc2 := hs2.keepS hcell
        by_cases hj8 : j < 8
        · have hsz := hs2.size
          go_wp2_with (at_builtin; go_loud (refine own_after (w := wr) rfl _ _ 22 rfl w.heap.size 4 (.bool false) Try.underlying22 1 bool_info rfl p2 (8 * i + j) c2 _ (.bool ((z / 2 ^ (7 - j)).tmod 2 == 1)) rfl rfl rfl hown2 rfl (by omega) (by omega) hsz ?_))
          intro p3 c3 w3 hown3 hx3
          have hs3 := hs2.trans hx3 (fun k hk e => by omega)
          have hown4 : Hid (w3.ownsRow w.heap.size 4 1 (.slice p3 (8 * i + (j + 1)) c3) (8 * i + (j + 1)) ((bitsTo zs (8 * i + (j + 1))).map .bool)) := by
            show World.ownsRow _ _ _ _ _ _ _
            rw [show 8 * i + (j + 1) = 8 * i + j + 1 by omega, bitsTo_succ, List.map_append]
            have : bitAt zs (8 * i + j) = ((z / 2 ^ (7 - j)).tmod 2 == 1) := by
              unfold bitAt
              rw [show (8 * i + j) / 8 = i by omega, show (8 * i + j) % 8 = j by omega, Hz.out]
            rw [List.map_cons, List.map_nil, this]
            exact hown3
          clear hown3 hx3
          go_wp2
          go_roundw
          case rel => exact ⟨j + 1, p3, c3, by omega, by first | rfl | go_num | (simp; omega), by rw [show 8 * i + (j + 1) = 8 * i + j + 1 by omega], hown4.out, hs3⟩
          case measure => simp [intOf]; omega
        · have : j = 8 := by omega
          subst this
          have hs3 := Lib.hid hs2
          have hown3 := Lib.hid hown2
          clear hs2 hown2
          go_wp2
          go_roundw
          case rel => exact ⟨i + 1, p2, c2, by omega, by go_num, by rw [show 8 * (i + 1) = 8 * i + 8 by omega], by rw [show 8 * (i + 1) = 8 * i + 8 by omega]; exact hown3.out, hs3.out⟩
          case measure => simp [intOf]; omega
    · have : i = zs.length := by omega
      subst this
      go_wp2
      go_ret
      exact ⟨p', c', rfl, hown, hs⟩

set_option maxRecDepth 100000 in
theorem frombytes_any (w : World) (p : Option Addr) (c : Nat) (zs : List Int) (n : Int) (hz : Ints .u8 w (.slice p zs.length c) zs) (hb : ∀ z ∈ zs, 0 ≤ z ∧ z < 256) (hl : zs.length ≤ 1000) :
    Calls Try.prog 18 #[.slice p zs.length c, .int .i64 n] w fun e w' => ∃ b v, e = .returned (.pointer (some ⟨b, 0, none⟩)) ∧ w.heap.size ≤ b ∧ (∀ k, v.ownBlock = some k → w.heap.size ≤ k) ∧ TapeAt w' b v (bitsTo zs (max 0 (min n (8 * zs.length))).toNat) 0 false ∧ Same w w' := by
  have hcl : zs.length ≤ c := by obtain ⟨_, q, cap, he, h2, _⟩ := hz; simp at he; omega
  go_enter Try.func18, Try.ntmps18
  go_upto_region 2 with fail
  go_cut [1] (fun s wx => (∃ m : Nat, s = .int .i64 m ∧ m ≤ 8 * zs.length ∧ Hid (m = (max 0 (min n (8 * zs.length))).toNat)) ∧ w = wx)
  case first =>
    go_wp2
    all_goals
      go_meet
      exact ⟨nat_is _ _ (by omega) (by omega) (by omega), rfl⟩
  case rest =>
    obtain ⟨⟨m, rfl, hm, Hm⟩, rfl⟩ := hcut
    obtain ⟨i0, hi, hz0, hz1, hz2⟩ := info_parts bool_info
    go_wp2_with (at_make; go_loud (refine wpList_make_full _ rfl _ _ 22 rfl w.heap.size 4 i0 (.bool false) 1 Try.underlying22 hi hz0 hz1 .i64 .i64 _ _ m rfl rfl rfl rfl (by rw [hz2]; omega) (by unfold maxLen; omega) (Nat.le_refl _) ?_))
    intro w1 hown hg
    have hs1 : Same w w1 := (Ext.refl _ w).grown hg (fun k hk => by cases hk)
    have hown1 : w1.ownsRow w.heap.size 4 1 (.slice (some ⟨w.heap.size, 0, none⟩) m m) m (((bitsTo zs 0) ++ List.replicate (m - 0) false).map .bool) := by
      have e : (madeCells #[Value.bool false] m).toList = ((bitsTo zs 0) ++ List.replicate (m - 0) false).map Value.bool := by
        show (madeCells #[Value.bool false] m).toList = _
        rw [toList_madeCells_one]
        simp [bitsTo]
      rw [← e]; exact hown
    clear hown hg hi hz0 hz1 hz2
    go_wp2_with fail
    go_loopw [21] (fun s wr => ∃ i : Nat, i ≤ m ∧ s = .int .i64 i ∧ wr.ownsRow w.heap.size 4 1 (.slice (some ⟨w.heap.size, 0, none⟩) m m) m (((bitsTo zs i) ++ List.replicate (m - i) false).map .bool) ∧ Same w wr) (fun s _ => m - (intOf s).toNat)
    case atStart => exact ⟨0, Nat.zero_le _, rfl, hown1, hs1⟩
    case round =>
      obtain ⟨i, hi, rfl, hown, hs⟩ := hrel
      clear hown1 hs1
      by_cases him : i < m
      · have hdiv : i / 8 < zs.length := by omega
        obtain ⟨b, o, rfl⟩ : ∃ b o, p = some ⟨b, o, none⟩ := by
          obtain ⟨h1, q, cap, he, h2, h3, h4⟩ := hz
          simp at he
          rcases h4 with ⟨_, h4, _⟩ | ⟨b, o, h4, _⟩
          · omega
          · exact ⟨b, o, by rw [he.1, h4]⟩
        have hcell := hs.keepS (Ints.cell hz (i / 8) hdiv)
        obtain ⟨z, Hz⟩ : ∃ z, Hid (zs.getD (i / 8) 0 = z) := ⟨_, rfl⟩
        have hzr : 0 ≤ z ∧ z < 256 := by
          rw [← Hz.out]
          apply hb
          simp [hdiv]
        obtain ⟨hz0, hz1⟩ := hzr
        rw [Hz.out] at hcell
        have hold := hown.cellAt i (by omega)
        obtain ⟨u, hu⟩ : ∃ u, ((bitsTo zs i ++ List.replicate (m - i) false).map Value.bool)[i]? = some u := by
          refine ⟨_, List.getElem?_eq_getElem ?_⟩
          rw [hown.1]; omega
        rw [hu] at hold
        have hfz := hown.frozenAt i
        have hst := fun u => hown.stored i u
        have Hst := Lib.hid hst
        clear hst hu
        go_wp2_with fail
        refine ⟨⟨i + 1, by omega, by go_num, ?_, hs.setCell (fun h => by simp at h) _⟩, by simp [intOf]; omega⟩
        rw [and1_u8 _ (Int.ediv_nonneg hz0 (Int.le_of_lt (Int.pow_pos (by decide)))) (Int.lt_of_le_of_lt (Int.ediv_le_self _ hz0) hz1)]
        have := (Hst.out (.bool ((z / 2 ^ (7 - i % 8)).tmod 2 == 1))).1
        have e : ((bitsTo zs i ++ List.replicate (m - i) false).map Value.bool).set i (.bool ((z / 2 ^ (7 - i % 8)).tmod 2 == 1)) = (bitsTo zs (i + 1) ++ List.replicate (m - (i + 1)) false).map Value.bool := by
          rw [← List.map_set, List.set_append, bitsTo_len]
          simp only [Nat.lt_irrefl, if_false, Nat.sub_self]
          rw [show m - i = (m - (i + 1)) + 1 by omega, List.replicate_succ, List.set_cons_zero, bitsTo_succ, List.append_assoc]
          congr 2
          show _ = [_] ++ _
          congr 2
          rw [Hz.out]
        rw [← e]
        exact this
      · have : i = m := by omega
        subst this
        go_wp2_with fail
        go_ret
        refine ⟨wr.heap.size, _, rfl, hs.size, fun k hk => (hown.lt k hk).1, ?_, hs.alloc _⟩
        rw [← Hm.out]
        have e : (bitsTo zs i ++ List.replicate (i - i) false) = bitsTo zs i := by simp
        rw [e] at hown
        have h3 := TapeAt.made (k := 0) (d := false) (T := 51) (cs := bitsTo zs i) (by rw [bitsTo_len]; exact hown) (Nat.zero_le _) (by rw [bitsTo_len]; omega)
        exact h3

end Go.Proofs.Ytgfndnafmokfhaa
