/- The law TapeBytes: walked. -/
import Derived.Test.YtgfndnafmokfhaaBytes
namespace Go.Proofs.Ytgfndnafmokfhaa
open Go.RowKit

theorem slice_len {p : Option Addr} {a b c : Nat} (h : a = b) : Value.slice p a c = .slice p b c := by rw [h]

theorem bitsTo_take (zs : List Int) (n m : Nat) (h : m ≤ n) : (bitsTo zs n).take m = bitsTo zs m := by
  unfold bitsTo
  rw [← List.map_take, List.take_range, Nat.min_eq_left h]

set_option maxRecDepth 100000 in
theorem bytes_walk {w : World} {va : Value} {xs : List Int} {n : Int} (ha : Ints .u8 w va xs ∧ ∀ z ∈ xs, 0 ≤ z ∧ z < 256) :
    Calls Try.prog 6 #[va, .int .i64 n] w fun e w' => e = .returned (.bool true) ∧ Same w w' := by
  obtain ⟨ha, hr⟩ := ha
  obtain ⟨p, c, rfl, hlc, hcm⟩ : ∃ p c, va = .slice p xs.length c ∧ xs.length ≤ c ∧ c ≤ 9223372036854775807 := by
    obtain ⟨_, p, c, h, h2, h3, _⟩ := id ha
    exact ⟨p, c, h, h2, h3⟩
  go_enter Try.func6, Try.ntmps6
  go_wp2_with fail
  refine (awake_any _).mono ?_
  rintro e w1 ⟨rfl, hs1⟩
  have ha1 := ha.same hs1
  go_upto_if 17 with fail
  go_cut [0] (fun s wx => (∃ p c ds, s = .slice p ds.length c ∧ Ints .u8 w1 (.slice p ds.length c) ds ∧ (∀ z ∈ ds, 0 ≤ z ∧ z < 256) ∧ ds.length ≤ 100) ∧ w1 = wx)
  case first =>
    go_wp2
    · go_meet
      have h100 : 100 < xs.length := by omega
      refine ⟨⟨p, c, xs.take 100, ?_, ?_, fun z hz => hr z (List.mem_of_mem_take hz), by rw [List.length_take]; omega⟩, rfl⟩
      · rw [List.length_take, Nat.min_eq_left (by omega)]
      · have := ha1.take 100 (by omega)
        rw [Nat.mul_one, ← List.map_take] at this
        show Cells w1 _ 1 (xs.take 100).length _
        rw [List.length_take, Nat.min_eq_left (by omega)]
        exact this
    · go_meet
      exact ⟨⟨p, c, xs, rfl, ha1, hr, by omega⟩, rfl⟩
  case rest =>
    clear ha ha1 hr hlc hcm
    obtain ⟨⟨p, c, ds, rfl, hd, hr, hl⟩, rfl⟩ := hcut
    clear xs
    go_wp2_with fail
    refine (frombytes_any _ p c ds n hd hr (by omega)).mono ?_
    rintro e w2 ⟨b, v, rfl, hb, hv, ht, hs⟩
    go_wp2_with fail
    refine (bits_any _ p c ds (hd.same hs) hr (by omega)).mono ?_
    rintro e w3 ⟨p3, c3, rfl, hown, hs3⟩
    have ht3 := ht.same hs3
    have hs4 := (hs1.same hs).same hs3
    have hbw : w.heap.size ≤ b := by have := hs1.size; omega
    have hb3 : b < w2.heap.size := ht.lt
    have hv3 : ∀ k, v.ownBlock = some k → k < w2.heap.size := ht.2.1.lt
    obtain ⟨m, hm⟩ : ∃ m, Hid ((max 0 (min n (8 * ds.length))).toNat = m) := ⟨_, rfl⟩
    have hm8 : m ≤ 8 * ds.length := by have := hm.out; omega
    rw [hm.out] at ht3
    have hc3 : 8 * ds.length ≤ c3 ∧ c3 ≤ 9223372036854775807 := by
      obtain ⟨_, q, cap, he, h2, h3, _⟩ := Cells.ofOwn hown
      simp at he
      unfold maxLen at h3
      omega
    obtain ⟨hc3, hc4⟩ := hc3
    clear hs hd hr ht hs1
    go_upto_region 6 with fail
    go_cut [6] (fun s wx => s = .slice p3 m c3 ∧ w3 = wx)
    case first =>
      go_wp2
      all_goals
        go_meet
        have := hm.out
        exact ⟨slice_len (by omega), rfl⟩
    case rest =>
      obtain ⟨rfl, rfl⟩ := hcut
      have hbits : Bools w3 (.slice p3 m c3) (bitsTo ds m) := by
        have := (Cells.ofOwn hown).take m hm8
        rw [Nat.mul_one, ← List.map_take, bitsTo_take _ _ _ hm8] at this
        show Cells w3 _ 1 (bitsTo ds m).length _
        rw [bitsTo_len]
        exact this
      have hrow : ∀ k, (Value.slice p3 m c3).ownBlock = some k → w2.heap.size ≤ k := by
        intro k hk
        exact (hown.lt k (by cases p3 with | none => cases hk | some a => exact hk)).1
      have htl : (bitsTo ds m).length ≤ m := by rw [bitsTo_len]; omega
      have htl2 : m ≤ (bitsTo ds m).length := by rw [bitsTo_len]; omega
      clear hown hc3 hc4
      generalize bitsTo ds m = cs at *
      have hmb : m ≤ 800 := by omega
      clear hm hm8 hl
      go_wp2_with fail
      refine (left_any _ b v cs _ _ ht3).mono ?_
      rintro e w4 ⟨rfl, nd, rfl⟩
      have ht4 := TapeRun.zero (ht3.drewN nd)
      have hb4 : Bools (w3.drewN nd) (.slice p3 m c3) cs := hbits.same ((Ext.refl _ _).drewN nd)
      have hs5 := hs4.drewN nd
      simp only [Bool.false_eq_true, if_false]
      rw [show ((cs.length : Int) - ((0 : Nat) : Int)) = (m : Int) by omega]
      clear ht3 hbits hs4
      generalize w3.drewN nd = w4 at *
      have hnb : ∀ k, (Value.slice p3 m c3).ownBlock = some k → k ≠ b := fun k hk => by have := hrow k hk; omega
      go_wp2_with fail
      go_loopw [39] (fun s wr => ∃ i : Nat, i ≤ m ∧ s = .int .i64 i ∧ TapeRun wr b v cs i ∧ Bools wr (.slice p3 m c3) cs ∧ Same w wr) (fun s _ => m - (intOf s).toNat)
      case atStart => exact ⟨0, Nat.zero_le _, rfl, ht4, hb4, hs5⟩
      case round =>
        obtain ⟨i, hi, rfl, ht, hb, hs⟩ := hrel
        clear ht4 hb4 hs5
        by_cases him : i < m
        · obtain ⟨bit, Hb⟩ : ∃ bit, Hid (cs.getD i false = bit) := ⟨_, rfl⟩
          obtain ⟨bb, o, hp3, hcell⟩ : ∃ bb o, p3 = some ⟨bb, o, none⟩ ∧ wr.cell? ⟨bb, o + i, none⟩ = some (.bool bit) := by
            obtain ⟨_, q, cap, he, _, _, h4⟩ := hb
            simp at he
            obtain ⟨rfl, rfl, rfl⟩ := he
            rcases h4 with ⟨_, h4, _⟩ | ⟨bb, o, h4, _, hc⟩
            · omega
            · refine ⟨bb, o, h4, hc i _ ?_⟩
              rw [List.getElem?_map, List.getElem?_eq_getElem (by omega)]
              rw [← Hb.out]
              simp [List.getD, List.getElem?_eq_getElem (show i < cs.length by omega)]
          subst hp3
          go_wp2_with fail
          refine (flip_bit _ b v cs i (ht.live (by omega)) (by omega) bit Hb).mono ?_
          rintro e w5 ⟨rfl, ht5, hs5⟩
          have hb5 := hb.ext hs5 hnb
          have hs6 := hs.trans hs5 (fun k hk e => by omega)
          have ht6 := TapeRun.on ht5 (by omega)
          clear hs5 hb hs ht ht5 hcell
          go_wp2
          go_roundw
          case rel => exact ⟨i + 1, by omega, by go_num, ht6, hb5, hs6⟩
          case measure => simp [intOf]; omega
        · have : i = m := by omega
          subst this
          go_wp2_with fail
          refine (flip_no _ b v cs _ _ ht (Or.inr (by omega))).mono ?_
          rintro e w5 ⟨rfl, ht5, hs5⟩
          have hs6 := hs.trans hs5 (fun k hk e => by omega)
          go_wp2
          go_ret
          exact ⟨rfl, hs6⟩

end Go.Proofs.Ytgfndnafmokfhaa
