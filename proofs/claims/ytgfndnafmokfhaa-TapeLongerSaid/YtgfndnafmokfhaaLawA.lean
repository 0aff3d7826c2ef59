/- The law TapeLonger: walked. -/
import Derived.Test.YtgfndnafmokfhaaAwake9
namespace Go.Proofs.Ytgfndnafmokfhaa
open Go.RowKit

theorem longer_walk {w : World} {va vb : Value} {xs ys : List Bool} {n : Int} (ha : Bools w va xs) (hb : Bools w vb ys) :
    Calls Try.prog 3 #[va, vb, .int .i64 n] w fun e w' => e = .returned (.bool true) ∧ Same w w' := by
  go_enter Try.func3, Try.ntmps3
  go_wp2_with fail
  refine (awake_any _).mono ?_
  rintro e w1 ⟨rfl, hs1⟩
  go_wp2_with fail
  refine (few_sh _ _ xs 200 (ha.same hs1) (by omega)).mono ?_
  rintro e w2 ⟨pa, ca, as', rfl, ha', hal, hao, Hx, rfl⟩
  go_wp2_with fail
  refine (few_sh _ _ ys 200 (hb.same hs1) (by omega)).mono ?_
  rintro e w2 ⟨pb, cb, bs, rfl, hb', hbl, hbo, Hy, rfl⟩
  clear ha hb hao hbo Hx Hy xs ys
  go_upto_region 4 with fail
  go_cut [2] (fun s wx => (∃ m : Nat, s = .int .i64 m ∧ m ≤ 500) ∧ wx = w1)
  case first =>
    go_wp2
    all_goals
      go_meet
      first | exact ⟨⟨500, rfl, by omega⟩, rfl⟩ | exact ⟨⟨0, rfl, by omega⟩, rfl⟩ | exact ⟨⟨n.toNat, by rw [Int.toNat_of_nonneg (by omega)], by omega⟩, rfl⟩
  case rest =>
    obtain ⟨⟨m, rfl, hm⟩, rfl⟩ := hcut
    go_wp2_with fail
    refine (new_few _ _ as' ha' (by omega)).mono ?_
    rintro e w2 ⟨bx, vx, rfl, hbx, hvx, hx, hs⟩
    have hs2 : Same w w2 := hs1.same hs
    have hbx' := hs1.size
    have hlx := hx.lt
    go_wp2_with (at_builtin; go_loud (refine wpList_append_cells rfl _ _ 22 rfl w2.heap.size 4 (.bool false) 1 1 Try.underlying22 bool_info rfl (by decide) (.slice (some ⟨w2.heap.size, 0, none⟩) 0 0) 0 [] rfl (World.ownsRow_lit w2 #[] 0 (Nat.le_refl _) (by unfold maxLen; omega) rfl) (.slice pa as'.length ca) as'.length (as'.map .bool) rfl ((ha'.same hs).same ((Ext.refl _ _).alloc _)) (bools_oneCell _) (by unfold maxLen; omega) (by omega) (by simp) ?_))
    intro v3 w3 hown hg
    have hs3 : Same w2 w3 := ((Ext.refl _ _).alloc _).grown hg (by intro k hk hlt; simp [Value.ownBlock] at hk; omega)
    obtain ⟨p3, c3, hv3⟩ := ownsRow_shape hown
    rw [hv3] at hown ⊢
    clear hv3 hg
    go_wp2_with (at_builtin; go_loud (refine wpList_append_cells rfl _ _ 22 rfl w2.heap.size 4 (.bool false) 1 1 Try.underlying22 bool_info rfl (by decide) (.slice p3 as'.length c3) as'.length (as'.map .bool) rfl hown (.slice pb bs.length cb) bs.length (bs.map .bool) rfl ((hb'.same hs).same hs3) (bools_oneCell _) (by unfold maxLen; omega) (by omega) hs3.size ?_))
    intro v4 w4 hown4 hg4
    have hs4 : Same w2 w4 := hs3.grown hg4 (by intro k hk hlt; have := (hown.lt k hk).1; omega)
    obtain ⟨p4, c4, hv4⟩ := ownsRow_shape hown4
    rw [hv4] at hown4 ⊢
    have hab : Bools w4 (.slice p4 (as' ++ bs).length c4) (as' ++ bs) := by
      have := Cells.ofOwn hown4
      rw [← List.map_append, ← List.length_append] at this
      exact this
    rw [← List.length_append]
    have hlab : (as' ++ bs).length = as'.length + bs.length := List.length_append
    have hx4 := hx.same hs4
    clear hv4 hg4 hs3 hown hown4 ha' hb' hs hx
    have Hab : Hid ((as' ++ bs).length = as'.length + bs.length ∧ ∀ i, i < as'.length → (as' ++ bs).getD i false = as'.getD i false) := ⟨hlab, fun i hi => by simp [List.getD, List.getElem?_append_left hi]⟩
    clear hlab
    generalize as' ++ bs = ds at *
    go_wp2_with fail
    have hld : ds.length ≤ 400 := by have := Hab.out.1; omega
    refine (new_few _ _ ds hab (by omega)).mono ?_
    rintro e w5 ⟨bY, vY, rfl, hbY, hvY, hy, hs⟩
    have hx5 := hx4.same hs
    have hs5 : Same w w5 := (hs2.same hs4).same hs
    have hne1 : bY ≠ bx := by have := hs4.size; omega
    have hne2 : vY.ownBlock ≠ some bx := fun e => by have := hvY _ e; have := hs4.size; omega
    have hne3 : vx.ownBlock ≠ some bY := fun e => by have := hx4.2.1.lt _ e; omega
    have hlw : w.heap.size ≤ bx ∧ w.heap.size ≤ bY := by have := hs4.size; omega
    clear hs2 hs4 hs hab hx4 hs1 hlx hbx hbY hvY hvx hbx'
    go_wp2_with fail
    go_loopw [31] (fun s wr => ∃ i : Nat, i ≤ m ∧ s = .int .i64 i ∧ TapeRun wr bx vx as' i ∧ TapeRun wr bY vY ds i ∧ Same w wr) (fun s _ => m - (intOf s).toNat)
    case atStart => exact ⟨0, Nat.zero_le _, rfl, TapeRun.zero hx5, TapeRun.zero hy, hs5⟩
    case round =>
      obtain ⟨i, hi, rfl, hx, hy, hs⟩ := hrel
      by_cases him : i < m
      · by_cases h1 : i < as'.length
        · have h2 : i < ds.length := by have := Hab.out.1; omega
          obtain ⟨bit, Hb⟩ : ∃ bit, Hid (as'.getD i false = bit) := ⟨_, rfl⟩
          have Hb2 : Hid (ds.getD i false = bit) := by show _ = _; rw [Hab.out.2 i h1]; exact Hb
          go_wp2_with fail
          refine (flip_bit _ bx vx as' i (hx.live (by omega)) h1 bit Hb).mono ?_
          rintro e w2 ⟨rfl, hx2, hs2⟩
          have hy2 := hy.ext hs2 hne1 (fun k hk e => hne2 (e ▸ hk))
          go_wp2_with fail
          refine (flip_bit _ bY vY ds i (hy2.live (by omega)) h2 bit Hb2).mono ?_
          rintro e w3 ⟨rfl, hy3, hs3⟩
          have hx3 := (TapeRun.on hx2 h1).ext hs3 (Ne.symm hne1) (fun k hk e => hne3 (e ▸ hk))
          have hs4 := (hs.trans hs2 (fun k hk e => by omega)).trans hs3 (fun k hk e => by omega)
          go_wp2
          go_roundw
          case rel => exact ⟨i + 1, by omega, by go_num, hx3, TapeRun.on hy3 h2, hs4⟩
          case measure => simp [intOf]; omega
        · go_wp2_with fail
          refine (flip_no _ bx vx as' _ _ hx (by rcases Nat.lt_or_ge as'.length i with h | h; exact .inl (by simp; omega); exact .inr (by omega))).mono ?_
          rintro e w2 ⟨rfl, hx2, hs2⟩
          have hy2 := hy.ext hs2 hne1 (fun k hk e => hne2 (e ▸ hk))
          have hx2' := TapeRun.off hx2 (by omega)
          go_wp2_with fail
          by_cases h2 : i < ds.length
          · obtain ⟨bit, Hb⟩ : ∃ bit, Hid (ds.getD i false = bit) := ⟨_, rfl⟩
            refine (flip_bit _ bY vY ds i (hy2.live (by omega)) h2 bit Hb).mono ?_
            rintro e w3 ⟨rfl, hy3, hs3⟩
            have hx3 := hx2'.ext hs3 (Ne.symm hne1) (fun k hk e => hne3 (e ▸ hk))
            have hs4 := (hs.trans hs2 (fun k hk e => by omega)).trans hs3 (fun k hk e => by omega)
            go_wp2
            go_roundw
            case rel => exact ⟨i + 1, by omega, by go_num, hx3, TapeRun.on hy3 h2, hs4⟩
            case measure => simp [intOf]; omega
          · refine (flip_no _ bY vY ds _ _ hy2 (by rcases Nat.lt_or_ge ds.length i with h | h; exact .inl (by simp; omega); exact .inr (by omega))).mono ?_
            rintro e w3 ⟨rfl, hy3, hs3⟩
            have hx3 := hx2'.ext hs3 (Ne.symm hne1) (fun k hk e => hne3 (e ▸ hk))
            have hs4 := (hs.trans hs2 (fun k hk e => by omega)).trans hs3 (fun k hk e => by omega)
            go_wp2
            go_roundw
            case rel => exact ⟨i + 1, by omega, by go_num, hx3, TapeRun.off hy3 (by omega), hs4⟩
            case measure => simp [intOf]; omega
      · have : i = m := by omega
        subst this
        have hle1 : ds.length ≤ as'.length + bs.length := by have := Hab.out.1; omega
        have hle2 : as'.length + bs.length ≤ ds.length := by have := Hab.out.1; omega
        by_cases h1 : as'.length < i
        all_goals by_cases h2 : ds.length < i
        all_goals try (exfalso; omega)
        all_goals
          go_wp2_with fail
          refine (dead_any _ bx vx _ _ _ hx).mono ?_
          rintro e w3 ⟨rfl, rfl⟩
          go_wp2_with fail
          refine (dead_any _ bY vY _ _ _ hy).mono ?_
          rintro e w3 ⟨rfl, rfl⟩
          go_wp2_with fail
          refine (read_any _ bx vx _ _ _ hx).mono ?_
          rintro e w3 ⟨rfl, rfl⟩
          go_wp2
          go_ret
          refine ⟨ret_true ?_, hs⟩
          simp
          omega

end Go.Proofs.Ytgfndnafmokfhaa
