/- flip.Half and draw.Binomial, walked. -/
import Derived.Test.YtfcamaiehepinaaTape
import Derived.Test.YtfcamaiehepinaaTapeM
import Derived.Deep.DeepCutAuto
namespace Go.Proofs.Ytfcamaiehepinaa
open Go.RowKit

/-- flip.Half -/
theorem half_any (w : World) (b : Nat) (v : Value) (cs : List Bool) (p : Nat) (k : Int) (ht : TapeAt w b v cs p false) (hk : k ≤ 1000000) :
    Calls Try.prog 49 #[.pointer (some ⟨b, 0, none⟩), .int .i64 k] w (TPost Value.bool (· = false) w b v cs (halfM cs k.toNat p)) := by
  obtain ⟨R, HR⟩ : ∃ R, Hid (halfM cs k.toNat p = R) := ⟨_, rfl⟩
  rw [HR.out]
  go_enter Try.func49, Try.ntmps49
  go_upto_region 1 with fail
  go_cut [9, 10] (fun s t wx => (∃ m : Nat, s = .int .i64 m ∧ m ≤ 1000000 ∧ Hid (halfM cs m p = R)) ∧ t = .int .i64 (0 : Nat) ∧ w = wx)
  case first =>
    by_cases h0 : 0 ≤ k
    · obtain ⟨m, rfl⟩ := Int.eq_ofNat_of_zero_le h0
      go_wp2
      all_goals
        go_meet
        refine ⟨⟨m, ?_, by omega, HR.out⟩, rfl, rfl⟩
        try rfl
        try (congr 1; omega)
    · go_wp2
      go_meet
      refine ⟨⟨0, rfl, by omega, ?_⟩, rfl, rfl⟩
      have := HR.out
      rwa [show k.toNat = 0 by omega] at this
  case rest =>
    obtain ⟨⟨m, rfl, hm, Hm⟩, rfl, rfl⟩ := hcut
    clear HR
    go_wp2_with fail
    go_loopw [10] (fun s wr => ∃ i q : Nat, i ≤ m ∧ s = .int .i64 i ∧ TapeAt wr b v cs q false ∧ Hid (halfM cs (m - i) q = R) ∧ Ext (· = b) w wr) (fun s _ => m - (intOf s).toNat)
    case atStart => exact ⟨0, p, Nat.zero_le _, rfl, ht, Hm.out, Ext.refl _ _⟩
    case round =>
      obtain ⟨i, q, hi, rfl, ht, Hq, hs⟩ := hrel
      by_cases him : i < m
      · have Hq' : Hid ((if q < cs.length then (if cs.getD q false then halfM cs (m - (i + 1)) (q + 1) else some (false, q + 1)) else none) = R) := by
          have := Hq.out
          rw [show m - i = (m - (i + 1)) + 1 by omega] at this
          exact this
        clear Hq
        by_cases hq : q < cs.length
        · obtain ⟨bit, Hb⟩ : ∃ bit, Hid (cs.getD q false = bit) := ⟨_, rfl⟩
          have Hr := Hq'.out
          rw [if_pos hq, Hb.out] at Hr
          replace Hr := Lib.hid Hr
          go_wp2_with fail
          refine (flip_bit _ b v cs q ht hq bit Hb).mono ?_
          rintro e w2 ⟨rfl, ht2, hs2⟩
          have hs3 := hs.trans hs2 (fun k hk e => e)
          cases bit with
          | true =>
            go_wp2
            go_roundw
            case rel => exact ⟨i + 1, q + 1, by omega, by go_num, ht2, Hr.out, hs3⟩
            case measure => simp [intOf]; omega
          | false =>
            go_wp2
            go_ret2
            have := Hr.out
            simp at this
            subst this
            exact ⟨rfl, ht2, hs3⟩
        · have Hr := Hq'.out
          rw [if_neg hq] at Hr
          have hql : q = cs.length := by have := ht.2.2.2.1; omega
          go_wp2_with fail
          refine (flip_no _ b v cs q false ht (.inr hql)).mono ?_
          rintro e w2 ⟨rfl, ht2, hs2⟩
          have hs3 := hs.trans hs2 (fun k hk e => e)
          go_wp2
          go_ret2
          subst Hr
          rw [hql] at ht2
          exact ⟨false, rfl, rfl, ht2, hs3⟩
      · have : i = m := by omega
        subst this
        go_wp2
        go_ret2
        have := Hq.out
        rw [Nat.sub_self] at this
        subst this
        exact ⟨rfl, ht, hs⟩

/-- draw.Binomial -/
theorem binomial_any (w : World) (b : Nat) (v : Value) (cs : List Bool) (p y : Nat) (ht : TapeAt w b v cs p false) (hy : y ≤ 1000000) :
    Calls Try.prog 50 #[.pointer (some ⟨b, 0, none⟩), .int .i64 y] w (TPost (fun n : Nat => .int .i64 n) (· = 0) w b v cs (binA cs y 0 p)) := by
  obtain ⟨R, HR⟩ : ∃ R, Hid (binA cs y 0 p = R) := ⟨_, rfl⟩
  rw [HR.out]
  go_enter Try.func50, Try.ntmps50
  go_upto_region 2 with fail
  go_cut [10, 11] (fun s t wx => s = .int .i64 y ∧ t = .int .i64 (0 : Nat) ∧ w = wx)
  case first =>
    go_wp2
    all_goals
      go_meet
      refine ⟨?_, rfl, rfl⟩
      first | rfl | (congr 1; omega)
  case rest =>
    obtain ⟨rfl, rfl, rfl⟩ := hcut
    go_wp2_with fail
    go_loopw [6, 11] (fun a s wr => ∃ i q n : Nat, i ≤ y ∧ n ≤ i ∧ a = .int .i64 n ∧ s = .int .i64 i ∧ TapeAt wr b v cs q false ∧ Hid (binA cs (y - i) n q = R) ∧ Ext (· = b) w wr) (fun _ s _ => y - (intOf s).toNat)
    case atStart => exact ⟨0, p, 0, Nat.zero_le _, Nat.le_refl _, rfl, rfl, ht, HR.out, Ext.refl _ _⟩
    case round =>
      obtain ⟨i, q, n, hi, hn, rfl, rfl, ht, Hq, hs⟩ := hrel
      clear HR
      by_cases him : i < y
      · have Hq' : Hid ((if q < cs.length then binA cs (y - (i + 1)) (if cs.getD q false then n + 1 else n) (q + 1) else none) = R) := by
          have := Hq.out
          rw [show y - i = (y - (i + 1)) + 1 by omega] at this
          exact this
        clear Hq
        by_cases hq : q < cs.length
        · obtain ⟨bit, Hb⟩ : ∃ bit, Hid (cs.getD q false = bit) := ⟨_, rfl⟩
          have Hr := Hq'.out
          rw [if_pos hq, Hb.out] at Hr
          replace Hr := Lib.hid Hr
          go_wp2_with fail
          refine (flip_bit _ b v cs q ht hq bit Hb).mono ?_
          rintro e w2 ⟨rfl, ht2, hs2⟩
          have hs3 := hs.trans hs2 (fun k hk e => e)
          cases bit with
          | true =>
            go_wp2
            go_roundw
            case rel => exact ⟨i + 1, q + 1, n + 1, by omega, by omega, by go_num, by go_num, ht2, Hr.out, hs3⟩
            case measure => simp [intOf]; omega
          | false =>
            go_wp2
            go_roundw
            case rel => exact ⟨i + 1, q + 1, n, by omega, by omega, rfl, by go_num, ht2, Hr.out, hs3⟩
            case measure => simp [intOf]; omega
        · have Hr := Hq'.out
          rw [if_neg hq] at Hr
          have hql : q = cs.length := by have := ht.2.2.2.1; omega
          go_wp2_with fail
          refine (flip_no _ b v cs q false ht (.inr hql)).mono ?_
          rintro e w2 ⟨rfl, ht2, hs2⟩
          have hs3 := hs.trans hs2 (fun k hk e => e)
          go_wp2
          go_ret2
          subst Hr
          rw [hql] at ht2
          exact ⟨0, rfl, rfl, ht2, hs3⟩
      · have : i = y := by omega
        subst this
        go_wp2
        go_ret2
        have := Hq.out
        rw [Nat.sub_self] at this
        subst this
        exact ⟨rfl, ht, hs⟩

/-- the reference's Half -/
theorem rhalf_any (w : World) (pa : Option Addr) (ca : Nat) (cs : List Bool) (p k : Nat) (hb : Bools w (.slice pa cs.length ca) cs) (hl : cs.length ≤ 1000) (hp : p ≤ cs.length) (hk : k ≤ 1000000) :
    Calls Try.prog 41 #[.slice pa cs.length ca, .int .i64 p, .int .i64 k] w (RPost (fun x t e => .agg #[.bool x, .int .i64 t, .int .i64 e]) (· = false) p cs.length w (halfM cs k p)) := by
  obtain ⟨R, HR⟩ : ∃ R, Hid (halfM cs k p = R) := ⟨_, rfl⟩
  rw [HR.out]
  go_enter Try.func41, Try.ntmps41
  go_wp2_with fail
  go_loop [7] (fun s => ∃ i : Nat, i ≤ k ∧ p + i ≤ cs.length ∧ s = .int .i64 i ∧ Hid (halfM cs (k - i) (p + i) = R)) (fun s => k - (intOf s).toNat)
  case atStart => exact ⟨0, Nat.zero_le _, by omega, rfl, HR.out⟩
  case round =>
    obtain ⟨i, hi, hpi, rfl, Hq⟩ := hrel
    clear HR
    by_cases him : i < k
    · have Hq' : Hid ((if p + i < cs.length then (if cs.getD (p + i) false then halfM cs (k - (i + 1)) (p + i + 1) else some (false, p + i + 1)) else none) = R) := by
        have := Hq.out
        rw [show k - i = (k - (i + 1)) + 1 by omega] at this
        exact this
      clear Hq
      by_cases hq : p + i < cs.length
      · obtain ⟨bit, Hb⟩ : ∃ bit, Hid (cs.getD (p + i) false = bit) := ⟨_, rfl⟩
        have Hr := Hq'.out
        rw [if_pos hq, Hb.out] at Hr
        replace Hr := Lib.hid Hr
        obtain ⟨bb, o, rfl, hbb, hcell⟩ := bool_cell hb hq Hb
        cases bit with
        | true =>
          go_wp2
          go_round
          case rel => exact ⟨i + 1, by omega, by omega, by go_num, Hr.out⟩
          case measure => simp [intOf]; omega
        | false =>
          go_wp2
          have := Hr.out
          simp at this
          subst this
          refine bodyPost_ret (v := .agg #[.bool false, .int .i64 (i + 1), .int .i64 0]) (by simp [results, Try.results41, go_sem]) rfl ⟨?_, (Ext.refl _ _).alloc _⟩
          rw [show ((p + i + 1 : Nat) : Int) - p = (i : Int) + 1 by omega]
      · have Hr := Hq'.out
        rw [if_neg hq] at Hr
        go_wp2
        subst Hr
        exact bodyPost_ret (v := .agg #[.bool false, .int .i64 i, .int .i64 8]) (by simp [results, Try.results41, go_sem]) rfl ⟨false, rfl, by rw [show (cs.length : Int) - p = (i : Int) by omega], (Ext.refl _ _).alloc _⟩
    · have : i = k := by omega
      subst this
      go_wp2
      have := Hq.out
      rw [Nat.sub_self] at this
      subst this
      refine bodyPost_ret (v := .agg #[.bool true, .int .i64 i, .int .i64 0]) (by simp [results, Try.results41, go_sem]) rfl ⟨?_, (Ext.refl _ _).alloc _⟩
      rw [show ((p + i : Nat) : Int) - p = (i : Int) by omega]

/-- the reference's Binomial -/
theorem rbinomial_any (w : World) (pa : Option Addr) (ca : Nat) (cs : List Bool) (p y : Nat) (hb : Bools w (.slice pa cs.length ca) cs) (hl : cs.length ≤ 1000) (hp : p ≤ cs.length) (hy : y ≤ 1000000) :
    Calls Try.prog 51 #[.slice pa cs.length ca, .int .i64 p, .int .i64 y] w (RPost (fun (x : Nat) t e => .agg #[.int .u64 x, .int .i64 t, .int .i64 e]) (· = 0) p cs.length w (binA cs y 0 p)) := by
  obtain ⟨R, HR⟩ : ∃ R, Hid (binA cs y 0 p = R) := ⟨_, rfl⟩
  rw [HR.out]
  go_enter Try.func51, Try.ntmps51
  go_wp2_with fail
  go_loop [7, 8] (fun a s => ∃ i n : Nat, i ≤ y ∧ n ≤ i ∧ p + i ≤ cs.length ∧ a = .int .u64 n ∧ s = .int .i64 i ∧ Hid (binA cs (y - i) n (p + i) = R)) (fun _ s => y - (intOf s).toNat)
  case atStart => exact ⟨0, 0, Nat.zero_le _, Nat.le_refl _, by omega, rfl, rfl, HR.out⟩
  case round =>
    obtain ⟨i, n, hi, hn, hpi, rfl, rfl, Hq⟩ := hrel
    clear HR
    by_cases him : i < y
    · have Hq' : Hid ((if p + i < cs.length then binA cs (y - (i + 1)) (if cs.getD (p + i) false then n + 1 else n) (p + i + 1) else none) = R) := by
        have := Hq.out
        rw [show y - i = (y - (i + 1)) + 1 by omega] at this
        exact this
      clear Hq
      by_cases hq : p + i < cs.length
      · obtain ⟨bit, Hb⟩ : ∃ bit, Hid (cs.getD (p + i) false = bit) := ⟨_, rfl⟩
        have Hr := Hq'.out
        rw [if_pos hq, Hb.out] at Hr
        replace Hr := Lib.hid Hr
        obtain ⟨bb, o, rfl, hbb, hcell⟩ := bool_cell hb hq Hb
        cases bit with
        | true =>
          go_wp2
          go_round
          case rel => exact ⟨i + 1, n + 1, by omega, by omega, by omega, by go_num, by go_num, Hr.out⟩
          case measure => simp [intOf]; omega
        | false =>
          go_wp2
          go_round
          case rel => exact ⟨i + 1, n, by omega, by omega, by omega, rfl, by go_num, Hr.out⟩
          case measure => simp [intOf]; omega
      · have Hr := Hq'.out
        rw [if_neg hq] at Hr
        go_wp2
        subst Hr
        exact bodyPost_ret (v := .agg #[.int .u64 0, .int .i64 i, .int .i64 8]) (by simp [results, Try.results51, go_sem]) rfl ⟨0, rfl, by rw [show (cs.length : Int) - p = (i : Int) by omega]; rfl, (Ext.refl _ _).alloc _⟩
    · have : i = y := by omega
      subst this
      go_wp2
      have := Hq.out
      rw [Nat.sub_self] at this
      subst this
      refine bodyPost_ret (v := .agg #[.int .u64 n, .int .i64 i, .int .i64 0]) (by simp [results, Try.results51, go_sem]) rfl ⟨?_, (Ext.refl _ _).alloc _⟩
      rw [show ((p + i : Nat) : Int) - p = (i : Int) by omega]

end Go.Proofs.Ytfcamaiehepinaa
