/- Parts of the proof: Pow1, Pow2, Float3, Rise1, Val1, Val2, Reg5, ChainG, ChainH, AmLaw, Reg6, Val3, Rise2, ValM, Cms4, Cms5, Cms6, Cms7, AmLaw2, AmLaw3, AmLB, Carr4, CmsO, CmsBg, RepL, BegL. -/
import Derived.Test.YtijbgbpjionfjaaGreatDoorPf
set_option linter.unusedVariables false
set_option linter.unusedSimpArgs false
set_option maxRecDepth 100000
namespace Go.Proofs.YtijbgbpjionfjaaGreatDoor.Am
section
open Go.RowKit
theorem and1_i64 (m : Nat) (hm : m ≤ 4611686018427387904) : bits BinOp.and IntKind.i64 (m : Int) 1 = ((m % 2 : Nat) : Int) := by
  show IntKind.i64.wrap (((BitVec.ofInt 64 (m : Int)) &&& (BitVec.ofInt 64 (1 : Int))).toNat : Int) = _
  have h1 : (BitVec.ofInt 64 (1 : Int)).toNat = 1 := by decide
  rw [BitVec.toNat_and, h1, BitVec.ofInt_natCast, BitVec.toNat_ofNat, Nat.mod_eq_of_lt (by omega), Nat.and_one_is_mod]
  exact w64 (by omega) (by omega)

theorem pow_round {r x m T : Nat} (h : r * x ^ m = T) : (if m % 2 = 1 then r * x else r) * (x * x) ^ (m / 2) = T := by
  have e : x ^ m = (x * x) ^ (m / 2) * x ^ (m % 2) := by
    rw [← Nat.pow_two, ← Nat.pow_mul, ← Nat.pow_add, Nat.div_add_mod]
  rw [← h, e]
  rcases Nat.mod_two_eq_zero_or_one m with h2 | h2
  · rw [h2, if_neg (by omega)]; simp
  · rw [h2, if_pos rfl, Nat.pow_one, Nat.mul_assoc, Nat.mul_comm x]
theorem pow_le_of {r x m T : Nat} (h : r * x ^ m = T) (hm : 0 < m) (hx : 1 ≤ x) (hr : 1 ≤ r) : x ≤ T ∧ r ≤ T := by
  have h1 : 1 ≤ x ^ m := Nat.pow_pos hx
  have h2 : x ≤ x ^ m := by
    calc x = x ^ 1 := (Nat.pow_one x).symm
      _ ≤ x ^ m := Nat.pow_le_pow_right hx hm
  constructor
  · rw [← h]; exact Nat.le_trans h2 (Nat.le_mul_of_pos_left _ hr)
  · rw [← h]; exact Nat.le_mul_of_pos_right _ h1

set_option maxHeartbeats 2000000 in
theorem npow_ok (a n : Nat) (hn : n ≤ 8192) (hb : bitsN a ≤ 1 ∨ n ≤ 8192 / bitsN a) (has : size a ≤ 129) : Eqn Tryz.prog n_nat_Pow [.d (.agg [natW a]), .d (.int .i64 n)] [] (.tup [.d (.agg [natW (a ^ n)]), .d (.int .i64 0)]) [] := by
  refine Eqn.pure r_nat_Pow Plain.ok ?_
  have hbits := bits_ok a (by omega)
  have hof : Eqn Tryz.prog n_nat_Of [.d (.sl 1 [.int .u64 (1 : Nat)])] [] (.d (.agg [natW 1])) [] := by
    have := of_ok [1] (small_one (by omega)) (by simp)
    simpa [W, wval] using this
  obtain ⟨q, hq⟩ : ∃ q, bitsN a = q := ⟨_, rfl⟩
  simp only [c_nat_Pow]
  have hn0 : ¬ (n : Int) < 0 := by omega
  rw [hq] at hbits hb
  obtain ⟨T, hT⟩ : ∃ T, a ^ n = T := ⟨_, rfl⟩
  have hTs : size T ≤ 129 := by
    rw [← hT]
    by_cases h1 : q ≤ 1
    · have : a ≤ 1 := by have := lt_bitsN a; rw [hq] at this; have := Nat.pow_le_pow_right (n := 2) (by omega) h1; omega
      have h2 : a ^ n ≤ 1 := by have := Nat.pow_le_pow_left this n; rwa [Nat.one_pow] at this
      have := size_le h2
      have := size_one (x := 1) (by omega)
      omega
    · refine size_pow' (n := q * n + 1) ?_ ?_
      · rw [Nat.pow_succ]
        have h2 := lt_bitsN a
        rw [hq] at h2
        have h3 : a ^ n ≤ (2 ^ q) ^ n := Nat.pow_le_pow_left (Nat.le_of_lt h2) n
        rw [← Nat.pow_mul] at h3
        have := Nat.two_pow_pos (q * n)
        omega
      · have h2 : n ≤ 8192 / q := hb.resolve_left h1
        rw [Nat.le_div_iff_mul_le (by omega)] at h2
        rw [Nat.mul_comm] at h2
        omega
  obtain ⟨n', hn', hn2⟩ : ∃ n' : Nat, n' = (if q ≤ 1 then min n 1 else n) ∧ a ^ n' = T := by
    refine ⟨_, rfl, ?_⟩
    by_cases h1 : q ≤ 1
    · have ha1 : a ≤ 1 := by have := lt_bitsN a; rw [hq] at this; have := Nat.pow_le_pow_right (n := 2) (by omega) h1; omega
      rw [if_pos h1, ← hT]
      rcases (by omega : a = 0 ∨ a = 1) with rfl | rfl
      · rcases Nat.eq_zero_or_pos n with rfl | hp
        · rfl
        · rw [Nat.min_eq_right hp, Nat.zero_pow hp]
      · rw [Nat.one_pow, Nat.one_pow]
    · rw [if_neg h1, hT]
  rw [hT]
  by_cases h1 : q ≤ 1
  · rw [if_pos h1] at hn'
    have hq1 : ¬ (1 : Int) < q := by omega
    have hq1n : ¬ 1 < q := by omega
    have hq2 : (q : Int) ≤ 1 := by omega
    have hmin : min (n : Int) 1 = (n' : Int) := by omega
    have hn8 : n' ≤ 8192 := by omega
    have hn1 : 1 < n' → 1 ≤ a ∧ 1 ≤ 1 := fun h => by omega
    refine G1 hn0 ?_; try with_reducible exact tt
    refine AW.cond rfl (fun h => ?_) (fun h => ?_)
    · simp [hn0] at h
    refine G0 ?_; try with_reducible exact tt
    refine CallS.pu (hbits) (R1 (fs hq1 (fs hq1n h1)) ?_); try with_reducible exact tt
    refine AW.cond rfl (fun h => ?_) (fun h => ?_)
    · simp at h
    refine AW.skip ?_
    simp
    refine G0 ?_; try with_reducible exact tt
    refine CallS.pf 2 1 ⟨28, _⟩ [.int .u64 (1 : Nat)] (hof) (by first | rfl | (simp; done)) (R0 ?_); try with_reducible exact tt
    refine CallS.pu (hbits) (R1 (fs hq2 h1) ?_); try with_reducible exact tt
    refine AW.cond rfl (fun h => ?_) (fun h => ?_)
    rotate_left
    · simp [hq2, h1] at h
    refine G1 hmin ?_; try with_reducible exact tt
    refine AW.loopT (α := Nat × Nat × Nat) 4 (fun s => [(1, .d (.int .i64 (s.1 : Nat)))]) (fun s => [(0, ⟨47, [.d (natW s.2.1)]⟩), (3, ⟨47, [.d (natW s.2.2)]⟩)]) (fun s => s.1 ≤ 8192 ∧ s.2.2 * s.2.1 ^ s.1 = T ∧ (0 < s.1 → size s.2.1 ≤ 200 ∧ size s.2.2 ≤ 200) ∧ (1 < s.1 → 1 ≤ s.2.1 ∧ 1 ≤ s.2.2)) (fun s => s.1) (n', a, 1) ?_ ?_ ⟨hn8, by rw [Nat.one_mul]; exact hn2, fun _ => ⟨Nat.le_trans has (by omega), Nat.le_trans (size_one (x := 1) (by omega)) (by omega)⟩, hn1⟩ ?_ ?_ ?_
    · simp
    · simp
    · simp
    · simp
    clear hn8 hn1 hn2 hn'
    rintro ⟨m, x, r⟩ ⟨hm8, hT2, hsz, hpos⟩
    simp only at hm8 hT2 hsz hpos
    simp
    by_cases hm0 : m = 0
    · subst hm0
      rw [Nat.pow_zero, Nat.mul_one] at hT2
      subst hT2
      refine G0 ?_; try with_reducible exact tt
      refine AW.cond rfl (fun h => ?_) (fun h => ?_)
      · simp at h
      refine AW.exit ?_
      (try (simp -implicitDefEqProofs; try simp (disch := omega) only [w64, wu64]))
      refine G0 ?_; try with_reducible exact tt
    · have hm1 : (0 : Int) < m := by omega
      have hm2 : 0 < m := by omega
      obtain ⟨sx, sr⟩ := hsz hm2
      have hand := and1_i64 m (by omega)
      have hm1' := mul_ok r x (by omega) (by omega)
      have hm2' := mul_ok x x (by omega) (by omega)
      have hdv : (m : Int) / 2 = ((m / 2 : Nat) : Int) := rfl
      have hr := pow_round hT2
      have hnext : (1 < m / 2 → 1 ≤ x * x ∧ 1 ≤ (if m % 2 = 1 then r * x else r)) := fun h => by
        obtain ⟨p1, p2⟩ := hpos (by omega)
        refine ⟨Nat.mul_pos p1 p1, ?_⟩
        split
        · exact Nat.mul_pos p2 p1
        · exact p2
      have hnext2 : (0 < m / 2 → size (x * x) ≤ 200 ∧ size (if m % 2 = 1 then r * x else r) ≤ 200) := fun h => by
        obtain ⟨p1, p2⟩ := hpos (by omega)
        have q1 : 1 ≤ x * x := Nat.mul_pos p1 p1
        have q2 : 1 ≤ (if m % 2 = 1 then r * x else r) := by
          split
          · exact Nat.mul_pos p2 p1
          · exact p2
        obtain ⟨k1, k2⟩ := pow_le_of hr h q1 q2
        exact ⟨Nat.le_trans (size_le k1) (by omega), Nat.le_trans (size_le k2) (by omega)⟩
      have hlt2 : m / 2 < m := by omega
      generalize m / 2 = hm at *
      rcases Nat.mod_two_eq_zero_or_one m with h2 | h2
      · rw [h2] at hand hr hnext hnext2
        rw [if_neg (by omega)] at hr hnext hnext2
        refine G1 (fs hm1 hm2) ?_; try with_reducible exact tt
        refine AW.cond rfl (fun h => ?_) (fun h => ?_)
        rotate_left
        · simp [hm1, hm2] at h
        refine G1 hand ?_; try with_reducible exact tt
        refine AW.cond rfl (fun h => ?_) (fun h => ?_)
        · simp at h
        refine G0 ?_; try with_reducible exact tt
        refine CallS.pu (hm2') (R1 hdv ?_); try with_reducible exact tt
        repeat (first | refine AW.seq ?_ | refine AW.block ?_ | (refine AW.reg mix ?_; simp -implicitDefEqProofs [hdv]; try simp (disch := omega) only [w64, wu64]) | (refine need.of (by first | omega | kernel_rfl) ?_) | (refine AW.fin ?_; try simp -implicitDefEqProofs [hdv]))
        (try (simp -implicitDefEqProofs [hdv]; try simp (disch := omega) only [w64, wu64]))
        repeat (first | refine AW.seq ?_ | refine AW.block ?_ | (refine AW.reg mix ?_; simp -implicitDefEqProofs [hdv]; try simp (disch := omega) only [w64, wu64]) | (refine need.of (by first | omega | kernel_rfl) ?_) | (refine AW.fin ?_; try simp -implicitDefEqProofs [hdv]))
        exact ⟨hm, _, _, ⟨by omega, hr, hnext2, hnext⟩, hlt2, by simp, Subs.refl _, Subs.refl _⟩
      · rw [h2] at hand hr hnext hnext2
        rw [if_pos rfl] at hr hnext hnext2
        refine G1 (fs hm1 hm2) ?_; try with_reducible exact tt
        refine AW.cond rfl (fun h => ?_) (fun h => ?_)
        rotate_left
        · simp [hm1, hm2] at h
        refine G1 hand ?_; try with_reducible exact tt
        refine AW.cond rfl (fun h => ?_) (fun h => ?_)
        rotate_left
        · simp at h
        refine G0 ?_; try with_reducible exact tt
        refine CallS.pu (hm1') (R0 ?_); try with_reducible exact tt
        refine CallS.pu (hm2') (R1 hdv ?_); try with_reducible exact tt
        repeat (first | refine AW.seq ?_ | refine AW.block ?_ | (refine AW.reg mix ?_; simp -implicitDefEqProofs [hdv]; try simp (disch := omega) only [w64, wu64]) | (refine need.of (by first | omega | kernel_rfl) ?_) | (refine AW.fin ?_; try simp -implicitDefEqProofs [hdv]))
        (try (simp -implicitDefEqProofs [hdv]; try simp (disch := omega) only [w64, wu64]))
        repeat (first | refine AW.seq ?_ | refine AW.block ?_ | (refine AW.reg mix ?_; simp -implicitDefEqProofs [hdv]; try simp (disch := omega) only [w64, wu64]) | (refine need.of (by first | omega | kernel_rfl) ?_) | (refine AW.fin ?_; try simp -implicitDefEqProofs [hdv]))
        exact ⟨hm, _, _, ⟨by omega, hr, hnext2, hnext⟩, hlt2, by simp, Subs.refl _, Subs.refl _⟩
  · rw [if_neg h1] at hn'
    rw [hn'] at hn2
    clear hn' n'
    have hq1 : (1 : Int) < q := by omega
    have hq1n : 1 < q := by omega
    have hq2 : ¬ (q : Int) ≤ 1 := by omega
    have hq0 : (q : Int) ≠ 0 := by omega
    have hle : n ≤ 8192 / q := hb.resolve_left h1
    have hdq : IntKind.i64.wrap ((8192 : Int).tdiv q) = ((8192 / q : Nat) : Int) := by
      rw [show (8192 : Int).tdiv q = ((8192 / q : Nat) : Int) from rfl, w64 (by omega) (by have := Nat.div_le_self 8192 q; omega)]
    have ha1 : 1 ≤ a := by
      rcases Nat.eq_zero_or_pos a with rfl | h
      · exfalso
        have : bitsN 0 ≤ 0 := bitsN_le (by decide)
        omega
      · exact h
    have hn8 : n ≤ 8192 := hn
    have hn1 : 1 < n → 1 ≤ a ∧ 1 ≤ 1 := fun _ => ⟨ha1, by omega⟩
    generalize 8192 / q = dq at *
    have hle2 : ¬ (dq : Int) < n := by omega
    have hle3 : ¬ dq < n := by omega
    have hn' : True := trivial
    refine G1 hn0 ?_; try with_reducible exact tt
    refine AW.cond rfl (fun h => ?_) (fun h => ?_)
    · simp [hn0] at h
    refine G0 ?_; try with_reducible exact tt
    refine CallS.pu (hbits) (R1 (fs hq1 hq1n) ?_); try with_reducible exact tt
    refine CallS.pu (hbits) (R1 (fs hq0 (fs hdq (fs hle2 (fs hle3 (fs hq1 hq1n))))) ?_); try with_reducible exact tt
    refine AW.cond rfl (fun h => ?_) (fun h => ?_)
    · simp [hle2, hle3] at h
    refine AW.skip ?_
    simp
    refine G0 ?_; try with_reducible exact tt
    refine CallS.pf 2 1 ⟨28, _⟩ [.int .u64 (1 : Nat)] (hof) (by first | rfl | (simp; done)) (R0 ?_); try with_reducible exact tt
    refine CallS.pu (hbits) (R1 (fs hq2 h1) ?_); try with_reducible exact tt
    refine AW.cond rfl (fun h => ?_) (fun h => ?_)
    · simp [hq2, h1] at h
    refine AW.skip ?_
    simp
    refine G0 ?_; try with_reducible exact tt
    refine AW.loopT (α := Nat × Nat × Nat) 4 (fun s => [(1, .d (.int .i64 (s.1 : Nat)))]) (fun s => [(0, ⟨47, [.d (natW s.2.1)]⟩), (3, ⟨47, [.d (natW s.2.2)]⟩)]) (fun s => s.1 ≤ 8192 ∧ s.2.2 * s.2.1 ^ s.1 = T ∧ (0 < s.1 → size s.2.1 ≤ 200 ∧ size s.2.2 ≤ 200) ∧ (1 < s.1 → 1 ≤ s.2.1 ∧ 1 ≤ s.2.2)) (fun s => s.1) (n, a, 1) ?_ ?_ ⟨hn8, by rw [Nat.one_mul]; exact hn2, fun _ => ⟨Nat.le_trans has (by omega), Nat.le_trans (size_one (x := 1) (by omega)) (by omega)⟩, hn1⟩ ?_ ?_ ?_
    · simp
    · simp
    · simp
    · simp
    clear hn8 hn1 hn2 hn'
    rintro ⟨m, x, r⟩ ⟨hm8, hT2, hsz, hpos⟩
    simp only at hm8 hT2 hsz hpos
    simp
    by_cases hm0 : m = 0
    · subst hm0
      rw [Nat.pow_zero, Nat.mul_one] at hT2
      subst hT2
      refine G0 ?_; try with_reducible exact tt
      refine AW.cond rfl (fun h => ?_) (fun h => ?_)
      · simp at h
      refine AW.exit ?_
      (try (simp -implicitDefEqProofs; try simp (disch := omega) only [w64, wu64]))
      refine G0 ?_; try with_reducible exact tt
    · have hm1 : (0 : Int) < m := by omega
      have hm2 : 0 < m := by omega
      obtain ⟨sx, sr⟩ := hsz hm2
      have hand := and1_i64 m (by omega)
      have hm1' := mul_ok r x (by omega) (by omega)
      have hm2' := mul_ok x x (by omega) (by omega)
      have hdv : (m : Int) / 2 = ((m / 2 : Nat) : Int) := rfl
      have hr := pow_round hT2
      have hnext : (1 < m / 2 → 1 ≤ x * x ∧ 1 ≤ (if m % 2 = 1 then r * x else r)) := fun h => by
        obtain ⟨p1, p2⟩ := hpos (by omega)
        refine ⟨Nat.mul_pos p1 p1, ?_⟩
        split
        · exact Nat.mul_pos p2 p1
        · exact p2
      have hnext2 : (0 < m / 2 → size (x * x) ≤ 200 ∧ size (if m % 2 = 1 then r * x else r) ≤ 200) := fun h => by
        obtain ⟨p1, p2⟩ := hpos (by omega)
        have q1 : 1 ≤ x * x := Nat.mul_pos p1 p1
        have q2 : 1 ≤ (if m % 2 = 1 then r * x else r) := by
          split
          · exact Nat.mul_pos p2 p1
          · exact p2
        obtain ⟨k1, k2⟩ := pow_le_of hr h q1 q2
        exact ⟨Nat.le_trans (size_le k1) (by omega), Nat.le_trans (size_le k2) (by omega)⟩
      have hlt2 : m / 2 < m := by omega
      generalize m / 2 = hm at *
      rcases Nat.mod_two_eq_zero_or_one m with h2 | h2
      · rw [h2] at hand hr hnext hnext2
        rw [if_neg (by omega)] at hr hnext hnext2
        refine G1 (fs hm1 hm2) ?_; try with_reducible exact tt
        refine AW.cond rfl (fun h => ?_) (fun h => ?_)
        rotate_left
        · simp [hm1, hm2] at h
        refine G1 hand ?_; try with_reducible exact tt
        refine AW.cond rfl (fun h => ?_) (fun h => ?_)
        · simp at h
        refine G0 ?_; try with_reducible exact tt
        refine CallS.pu (hm2') (R1 hdv ?_); try with_reducible exact tt
        repeat (first | refine AW.seq ?_ | refine AW.block ?_ | (refine AW.reg mix ?_; simp -implicitDefEqProofs [hdv]; try simp (disch := omega) only [w64, wu64]) | (refine need.of (by first | omega | kernel_rfl) ?_) | (refine AW.fin ?_; try simp -implicitDefEqProofs [hdv]))
        (try (simp -implicitDefEqProofs [hdv]; try simp (disch := omega) only [w64, wu64]))
        repeat (first | refine AW.seq ?_ | refine AW.block ?_ | (refine AW.reg mix ?_; simp -implicitDefEqProofs [hdv]; try simp (disch := omega) only [w64, wu64]) | (refine need.of (by first | omega | kernel_rfl) ?_) | (refine AW.fin ?_; try simp -implicitDefEqProofs [hdv]))
        exact ⟨hm, _, _, ⟨by omega, hr, hnext2, hnext⟩, hlt2, by simp, Subs.refl _, Subs.refl _⟩
      · rw [h2] at hand hr hnext hnext2
        rw [if_pos rfl] at hr hnext hnext2
        refine G1 (fs hm1 hm2) ?_; try with_reducible exact tt
        refine AW.cond rfl (fun h => ?_) (fun h => ?_)
        rotate_left
        · simp [hm1, hm2] at h
        refine G1 hand ?_; try with_reducible exact tt
        refine AW.cond rfl (fun h => ?_) (fun h => ?_)
        rotate_left
        · simp at h
        refine G0 ?_; try with_reducible exact tt
        refine CallS.pu (hm1') (R0 ?_); try with_reducible exact tt
        refine CallS.pu (hm2') (R1 hdv ?_); try with_reducible exact tt
        repeat (first | refine AW.seq ?_ | refine AW.block ?_ | (refine AW.reg mix ?_; simp -implicitDefEqProofs [hdv]; try simp (disch := omega) only [w64, wu64]) | (refine need.of (by first | omega | kernel_rfl) ?_) | (refine AW.fin ?_; try simp -implicitDefEqProofs [hdv]))
        (try (simp -implicitDefEqProofs [hdv]; try simp (disch := omega) only [w64, wu64]))
        repeat (first | refine AW.seq ?_ | refine AW.block ?_ | (refine AW.reg mix ?_; simp -implicitDefEqProofs [hdv]; try simp (disch := omega) only [w64, wu64]) | (refine need.of (by first | omega | kernel_rfl) ?_) | (refine AW.fin ?_; try simp -implicitDefEqProofs [hdv]))
        exact ⟨hm, _, _, ⟨by omega, hr, hnext2, hnext⟩, hlt2, by simp, Subs.refl _, Subs.refl _⟩
end
end Go.Proofs.YtijbgbpjionfjaaGreatDoor.Am
namespace Go.Proofs.YtijbgbpjionfjaaGreatDoor.Am
section
open Go.RowKit
theorem rat_pow_mk (x : Rat) : ∀ n : Nat, x ^ n = mkRat (x.num ^ n) (x.den ^ n)
  | 0 => by rw [Rat.pow_zero, Int.pow_zero, Nat.pow_zero]; rfl
  | n + 1 => by
    rw [Rat.pow_succ, rat_pow_mk x n]
    conv => lhs; rhs; rw [← Rat.mkRat_self x]
    rw [Rat.mkRat_mul_mkRat, Int.pow_succ, Nat.pow_succ]

theorem rpow_rat (x : Rat) (n : Nat) (hx : 0 ≤ x.num) (hn : n ≤ 8192) (hb1 : bitsN x.num.natAbs ≤ 1 ∨ n ≤ 8192 / bitsN x.num.natAbs) (hb2 : bitsN x.den ≤ 1 ∨ n ≤ 8192 / bitsN x.den) (hs : RS x 129) (hs1 : size (x.num.natAbs ^ n) ≤ 130) (hs2 : size (x.den ^ n) ≤ 130) :
    Eqn Tryz.prog n_rat_Pow [.d (rD x), .d (.int .i64 n)] [] (.tup [.d (rD (x ^ n)), .d (.int .i64 0)]) [] := by
  refine Eqn.pure r_rat_Pow Plain.ok ?_
  have h1 := npow_ok x.num.natAbs n hn hb1 hs.1
  have h2 := npow_ok x.den n hn hb2 hs.2
  have h3 := rden_int x (by have := hs.2; omega)
  have hneg : decide (x.num < 0) = false := by rw [decide_eq_false_iff_not]; omega
  have hab := abs_ok x.num.natAbs (decide (x.num < 0))
  have hng := neg_ok x.num.natAbs (decide (x.num < 0))
  have h4 := wmake_int false (x.num.natAbs ^ n) (x.num ^ n) (by rw [if_neg (by simp), Int.natCast_pow, Int.natAbs_of_nonneg hx])
  have e : (x.num ^ n).natAbs = x.num.natAbs ^ n := Int.natAbs_pow _ _
  have h5 := made_int (x.num ^ n) (x.den ^ n) (Nat.pow_pos x.den_pos) (by rw [e]; omega) (by omega)
  rw [← rat_pow_mk] at h5
  simp only [c_rat_Pow, rD, hneg] at hab hng h3 h5 ⊢
  generalize hz : x.num ^ n = z at *
  simp only [wD] at h4 h5
  refine G0 ?_; try with_reducible exact tt
  refine CallS.pu (hab) (R0 ?_); try with_reducible exact tt
  refine CallS.pu (h1) (R0 ?_); try with_reducible exact tt
  refine AW.cond rfl (fun h => ?_) (fun h => ?_)
  · simp at h
  refine G0 ?_; try with_reducible exact tt
  refine CallS.pu (h3) (R0 ?_); try with_reducible exact tt
  refine CallS.pu (h2) (R0 ?_); try with_reducible exact tt
  refine AW.cond rfl (fun h => ?_) (fun h => ?_)
  · simp at h
  refine G0 ?_; try with_reducible exact tt
  refine CallS.pu (hng) (R0 ?_); try with_reducible exact tt
  refine CallS.pu (h4) (R0 ?_); try with_reducible exact tt
  refine CallS.pu (h5) (R0 ?_); try with_reducible exact tt

theorem rof_rat (n : Nat) (h : n < 9223372036854775808) : Eqn Tryz.prog n_rat_Of [.d (.int .i64 n)] [] (.d (rD (n : Rat))) [] := by
  refine Eqn.pure r_rat_Of (plain_d _) ?_
  have h1 := wholeOf_ok n h
  have e : rD (n : Rat) = .agg [natW n, .bool false, natW 0] := by
    unfold rD
    rw [Rat.num_natCast, Rat.den_natCast, Int.natAbs_natCast]
    congr 4
  rw [e]
  simp only [c_rat_Of]
  refine G0 ?_; try with_reducible exact tt
  refine CallS.pu (h1) (R0 ?_); try with_reducible exact tt
  exact Sub1.rat0

theorem rmake_rat (p q : Nat) (hp : p < 9223372036854775808) (hq : q < 9223372036854775808) (h0 : 0 < q) : Eqn Tryz.prog n_rat_Make [.d (.int .i64 p), .d (.int .i64 q)] [] (.tup [.d (rD (mkRat p q)), .d (.int .i64 0)]) [] := by
  have hfr : Eqn Tryz.prog n_rat_Frac [.d (.agg [natW p, .bool false]), .d (.agg [natW q, .bool false])] [] (.tup [.d (rD (mkRat p q)), .d (.int .i64 0)]) [] := by
    refine Eqn.pure r_rat_Frac Plain.ok ?_
    have ha := abs_ok q false
    have hp1 := abs_ok p false
    have hn1 := neg_ok p false
    have hn2 := neg_ok q false
    have hz := zero_ok q
    have hq0 : (q == 0) = false := by simp; omega
    rw [hq0] at hz
    have h4 := wmake_int false p (p : Int) rfl
    have h5 := made_int (p : Int) q h0 (by rw [Int.natAbs_natCast]; exact Nat.le_trans (size_one (by omega)) (by omega)) (Nat.le_trans (size_one (by omega)) (by omega))
    have e2 : wD (p : Int) = .agg [natW p, .bool false] := by
      unfold wD
      rw [Int.natAbs_natCast]
      congr 4
    rw [e2] at h4 h5
    simp only [c_rat_Frac, rD] at h5 ⊢
    refine G0 ?_; try with_reducible exact tt
    refine CallS.pu (ha) (R0 ?_); try with_reducible exact tt
    refine CallS.pu (hz) (R0 ?_); try with_reducible exact tt
    refine AW.cond rfl (fun h => ?_) (fun h => ?_)
    · simp at h
    refine G0 ?_; try with_reducible exact tt
    refine CallS.pu (hn1) (R0 ?_); try with_reducible exact tt
    refine CallS.pu (hn2) (R0 ?_); try with_reducible exact tt
    refine CallS.pu (hp1) (R0 ?_); try with_reducible exact tt
    refine CallS.pu (h4) (R0 ?_); try with_reducible exact tt
    refine CallS.pu (ha) (R0 ?_); try with_reducible exact tt
    refine CallS.pu (h5) (R0 ?_); try with_reducible exact tt
  refine Eqn.pure r_rat_Make Plain.ok ?_
  have h1 := wholeOf_ok p hp
  have h2 := wholeOf_ok q hq
  simp only [c_rat_Make, rD] at hfr ⊢
  refine G0 ?_; try with_reducible exact tt
  refine CallS.pu (h1) (R0 ?_); try with_reducible exact tt
  refine CallS.pu (h2) (R0 ?_); try with_reducible exact tt
  refine CallS.pu (hfr) (R0 ?_); try with_reducible exact tt
end
end Go.Proofs.YtijbgbpjionfjaaGreatDoor.Am
namespace Go.Proofs.YtijbgbpjionfjaaGreatDoor.Am
section
open Go.RowKit
end
end Go.Proofs.YtijbgbpjionfjaaGreatDoor.Am
namespace Go.Proofs.YtijbgbpjionfjaaGreatDoor.Am
section
open Go.RowKit
theorem partV_mod (d k : Nat) (hd : d ≤ 8) (hk : k ≤ 1023) : partV d k = ((k % 2 ^ d : Nat) : Int) := by
  have h2 : 2 ^ d ≤ 256 := Nat.pow_le_pow_right (n := 2) (by omega) hd
  have h2' : 0 < 2 ^ d := Nat.two_pow_pos d
  have hm := Nat.mod_lt k h2'
  have e0 : (2 : Int) ^ d = (2 ^ d : Nat) := by rw [Int.natCast_pow]; rfl
  have e1 : IntKind.i64.wrap (2 ^ d : Nat) = (2 ^ d : Nat) := by rw [w64 (by omega) (by omega)]
  have e2 : IntKind.i64.wrap (((2 ^ d : Nat) : Int) - 1) = ((2 ^ d - 1 : Nat) : Int) := by rw [w64 (by omega) (by omega)]; omega
  rw [partV, e0, e1, e2]
  show IntKind.i64.wrap (((BitVec.ofInt 64 (k : Int)) &&& (BitVec.ofInt 64 ((2 ^ d - 1 : Nat) : Int))).toNat : Int) = _
  rw [BitVec.toNat_and, BitVec.ofInt_natCast, BitVec.ofInt_natCast, BitVec.toNat_ofNat, BitVec.toNat_ofNat, Nat.mod_eq_of_lt (show k < 2 ^ 64 by omega), Nat.mod_eq_of_lt (show 2 ^ d - 1 < 2 ^ 64 by omega), Nat.and_two_pow_sub_one_eq_mod]
  exact w64 (by omega) (by omega)

theorem value_big (d k : Nat) (hd : d ≤ 8) (hk : k ≤ 1023) :
    Eqn Tryz.prog n_float_Value [.d (.int .i64 d), .d (.int .i64 k)] [] (.tup [.d (.agg [natW ((2 ^ d + k % 2 ^ d) * 2 ^ (k / 2 ^ d) - 2 ^ d)]), .d (.int .i64 0)]) [] := by
  have h2 : 2 ^ d ≤ 256 := Nat.pow_le_pow_right (n := 2) (by omega) hd
  have hm := Nat.mod_lt k (Nat.two_pow_pos d)
  exact value_ok d k (k % 2 ^ d) hd hk (partV_mod d k hd hk) (by omega)
end
end Go.Proofs.YtijbgbpjionfjaaGreatDoor.Am
namespace Go.Proofs.YtijbgbpjionfjaaGreatDoor.Am
section
open Go.RowKit
/-- what a Morris counter stands for -/
def valM (a k : Nat) : Rat := (a : Rat) * ((mkRat ((a + 1 : Nat) : Int) a) ^ k - ((1 : Nat) : Rat))

theorem step_frac {a : Nat} (ha : 1 ≤ a) : (mkRat ((a + 1 : Nat) : Int) a).num = ((a + 1 : Nat) : Int) ∧ (mkRat ((a + 1 : Nat) : Int) a).den = a := by
  obtain ⟨p1, p2, p3⟩ := mkRat_parts ((a + 1 : Nat) : Int) a (by omega)
  rw [Int.natAbs_natCast] at p1 p2
  have hg : Nat.gcd (a + 1) a = 1 := by
    rw [Nat.gcd_comm, Nat.gcd_rec, show (a + 1) % a = 1 % a by rw [Nat.add_mod_left], ← Nat.gcd_rec, Nat.gcd_one_right]
  rw [hg, Nat.div_one] at p1 p2
  refine ⟨?_, p2⟩
  have : ¬ (mkRat ((a + 1 : Nat) : Int) a).num < 0 := fun h => by have := p3.1 h; omega
  omega

theorem pow_size {x n : Nat} (h : bitsN x * n ≤ 8192) : size (x ^ n) ≤ 129 := by
  refine size_pow' (n := bitsN x * n + 1) ?_ (by omega)
  rw [Nat.pow_succ]
  have h3 : x ^ n ≤ (2 ^ bitsN x) ^ n := Nat.pow_le_pow_left (Nat.le_of_lt (lt_bitsN x)) n
  rw [← Nat.pow_mul] at h3
  have := Nat.two_pow_pos (bitsN x * n)
  omega

theorem mvalue_ok (a k : Nat) (h1 : 1 ≤ a) (h2 : a ≤ 4096) (hk : k ≤ 1023) (hb : bitsN (a + 1) * k ≤ 8192) : Eqn Tryz.prog n_morris_Value [.d (.int .i64 a), .d (.int .i64 k)] [] (.tup [.d (rD (valM a k)), .d (.int .i64 0)]) [] ∧ RS (valM a k) 300 := by
  obtain ⟨q1, q2⟩ := step_frac h1
  have hmk := rmake_rat (a + 1) a (by omega) (by omega) (by omega)
  obtain ⟨x, hx⟩ : ∃ x, x = mkRat ((a + 1 : Nat) : Int) a := ⟨_, rfl⟩
  have hv : valM a k = (a : Rat) * (x ^ k - ((1 : Nat) : Rat)) := by rw [hx]; rfl
  rw [← hx] at q1 q2 hmk
  have hba : bitsN a ≤ bitsN (a + 1) := bitsN_le (Nat.lt_trans (Nat.lt_succ_self a) (lt_bitsN _))
  have hb2 : bitsN a * k ≤ 8192 := Nat.le_trans (Nat.mul_le_mul_right _ hba) hb
  have le8 : ∀ q : Nat, q * k ≤ 8192 → q ≤ 1 ∨ k ≤ 8192 / q := fun q h => by
    by_cases h1 : q ≤ 1
    · exact .inl h1
    · right; rw [Nat.le_div_iff_mul_le (by omega), Nat.mul_comm]; exact h
  have hxs : RS x 129 := ⟨by rw [q1, Int.natAbs_natCast]; exact Nat.le_trans (size_one (by omega)) (by omega), by rw [q2]; exact Nat.le_trans (size_one (by omega)) (by omega)⟩
  have hpow := rpow_rat x k (by omega) (by omega) (by rw [q1, Int.natAbs_natCast]; exact le8 _ hb) (by rw [q2]; exact le8 _ hb2) hxs (by rw [q1, Int.natAbs_natCast]; exact Nat.le_trans (pow_size hb) (by omega)) (by rw [q2]; exact Nat.le_trans (pow_size hb2) (by omega))
  have hps : RS (x ^ k) 129 := ⟨by rw [Rat.num_pow, Int.natAbs_pow, q1, Int.natAbs_natCast]; exact pow_size hb, by rw [Rat.den_pow, q2]; exact pow_size hb2⟩
  have h1s : RS ((1 : Nat) : Rat) 1 := ⟨by rw [Rat.num_natCast]; exact size_one (by omega), by rw [Rat.den_natCast]; exact size_one (by omega)⟩
  have has : RS (a : Rat) 1 := ⟨by rw [Rat.num_natCast, Int.natAbs_natCast]; exact size_one (by omega), by rw [Rat.den_natCast]; exact size_one (by omega)⟩
  have hsub := rsub_rat (x ^ k) ((1 : Nat) : Rat) (hps.le (by omega)) (h1s.le (by omega))
  have hss := RS.sub hps h1s
  have hmul := rmul_int (a : Rat) (x ^ k - ((1 : Nat) : Rat)) (has.le (by omega)) (hss.le (by omega))
  refine ⟨?_, by rw [hv]; exact (RS.mul has hss).le (by omega)⟩
  have hoa := rof_rat a (by omega)
  have ho1 := rof_rat 1 (by omega)
  have hw := mwrong1_ok a k
  rw [show wrongM (a : Int) [(k : Int)] = 0 by unfold wrongM; rw [if_pos (by omega), if_pos (by simp [okK]; omega)]] at hw
  have e1 : IntKind.i64.wrap ((a : Int) + 1) = ((a + 1 : Nat) : Int) := by rw [w64 (by omega) (by omega)]; omega
  refine Eqn.pure r_morris_Value Plain.ok ?_
  rw [hv]
  clear hv hxs hps h1s has hss q1 q2 hx
  generalize x ^ k - ((1 : Nat) : Rat) = xd at *
  generalize x ^ k = xk at *
  generalize (a : Rat) * xd = v at *
  generalize (a : Rat) = aq at *
  generalize ((1 : Nat) : Rat) = oq at *
  generalize ha1 : a + 1 = a' at *
  simp only [c_morris_Value, rD] at hmk hpow hsub hmul hoa ho1 ⊢
  refine G0 ?_; try with_reducible exact tt
  refine CallS.pf 1 1 ⟨3, _⟩ [.int .i64 k] (hw) (by first | rfl | (simp [e1]; done)) (R1 e1 ?_); try with_reducible exact tt
  refine AW.cond rfl (fun h => ?_) (fun h => ?_)
  · simp at h
  refine G1 e1 ?_; try with_reducible exact tt
  refine CallS.pu (hmk) (R0 ?_); try with_reducible exact tt
  refine CallS.pu (hpow) (R0 ?_); try with_reducible exact tt
  refine AW.cond rfl (fun h => ?_) (fun h => ?_)
  · simp at h
  refine G0 ?_; try with_reducible exact tt
  refine CallS.pu (hoa) (R0 ?_); try with_reducible exact tt
  refine CallS.pu (ho1) (R0 ?_); try with_reducible exact tt
  refine CallS.pu (hsub) (R0 ?_); try with_reducible exact tt
  refine CallS.pu (hmul) (R0 ?_); try with_reducible exact tt
end
end Go.Proofs.YtijbgbpjionfjaaGreatDoor.Am
namespace Go.Proofs.YtijbgbpjionfjaaGreatDoor.Am
section
open Go.RowKit
theorem meth_mvalue : MethOK Tryz.prog 245 "tallymark/chain.value" n_chain_aMorris_value := fun v w => by kernel_rfl
theorem meth_fvalue : MethOK Tryz.prog 246 "tallymark/chain.value" n_chain_aFloat_value := fun v w => by kernel_rfl
theorem meth_yvalue : MethOK Tryz.prog 247 "tallymark/chain.value" n_chain_aYu_value := fun v w => by kernel_rfl

/-- what a chain's place stands for -/
def valF (d k : Nat) : Nat := (2 ^ d + k % 2 ^ d) * 2 ^ (k / 2 ^ d) - 2 ^ d
def valC (k a y : Nat) : Rat := if k = 1 then valM a y else if k = 2 then ((valF a y : Nat) : Rat) else (((placeY a y).value : Nat) : Rat)

theorem cmvalue_ok (a k : Nat) (h1 : 1 ≤ a) (h2 : a ≤ 4096) (hk : k ≤ 1023) (hb : bitsN (a + 1) * k ≤ 8192) : Eqn Tryz.prog n_chain_aMorris_value [.d (.int .i64 a), .d (.int .i64 k)] [] (.tup [.d (rD (valM a k)), .d (.int .i64 0)]) [] := by
  refine Eqn.pure r_chain_aMorris_value Plain.ok ?_
  have h := (mvalue_ok a k h1 h2 hk hb).1
  simp only [c_chain_aMorris_value, rD] at h ⊢
  refine G0 ?_; try with_reducible exact tt
  refine CallS.pu (h) (R0 ?_); try with_reducible exact tt
theorem cfvalue_ok (d k : Nat) (hd : d ≤ 8) (hk : k ≤ 1023) : Eqn Tryz.prog n_chain_aFloat_value [.d (.int .i64 d), .d (.int .i64 k)] [] (.tup [.d (rD ((valF d k : Nat) : Rat)), .d (.int .i64 0)]) [] := by
  refine Eqn.pure r_chain_aFloat_value Plain.ok ?_
  have h := value_big d k hd hk
  rw [show (2 ^ d + k % 2 ^ d) * 2 ^ (k / 2 ^ d) - 2 ^ d = valF d k from rfl] at h
  have h2 := rnat_rat (valF d k)
  generalize valF d k = v at *
  simp only [c_chain_aFloat_value, rD] at h2 ⊢
  refine G0 ?_; try with_reducible exact tt
  refine CallS.pu (h) (R0 ?_); try with_reducible exact tt
  refine CallS.pu (h2) (R0 ?_); try with_reducible exact tt
theorem cyvalue_ok (s k : Nat) (s1 : 1 ≤ s) (s5 : s ≤ 5) (hk : k ≤ 1023) : Eqn Tryz.prog n_chain_aYu_value [.d (.int .i64 s), .d (.int .i64 k)] [] (.tup [.d (rD (((placeY s k).value : Nat) : Rat)), .d (.int .i64 0)]) [] := by
  refine Eqn.pure r_chain_aYu_value Plain.ok ?_
  have h := at_good s k s1 s5 hk
  have h2 := rnat_rat (placeY s k).value
  generalize placeY s k = p at *
  simp only [c_chain_aYu_value, rD, plD] at h h2 ⊢
  refine G0 ?_; try with_reducible exact tt
  refine CallS.pu (h) (R0 ?_); try with_reducible exact tt
  refine CallS.pu (h2) (R0 ?_); try with_reducible exact tt

theorem goodC_bits {a w x : Nat} (h : GoodC 1 a w) (hx : x ≤ 2 ^ w - 1) : bitsN (a + 1) * x ≤ 8192 := by
  obtain ⟨h, -⟩ := h
  rcases h with ⟨-, -, -, h⟩ | ⟨h, -⟩ | ⟨h, -⟩
  · exact Nat.le_trans (Nat.mul_le_mul_left _ hx) h
  · omega
  · omega

theorem cvalue_ok {k a w : Nat} (h : GoodC k a w) (x : Nat) (hx : x ≤ 2 ^ w - 1) : Eqn Tryz.prog n_chain_Param_Value [.d (parD k a w), .d (.int .i64 x)] [] (.tup [.d (rD (valC k a x)), .d (.int .i64 0)]) [] := by
  refine Eqn.pure r_chain_Param_Value Plain.ok ?_
  have hat := at_ok1 k a w h.2.2 x (by omega) (by omega) (goodC_check h)
  have hkd := kind_ok k a w
  have h10 : 2 ^ w ≤ 2 ^ 10 := Nat.pow_le_pow_right (by omega) h.2.2
  have hx1 : x ≤ 1023 := by omega
  have hb := goodC_bits (a := a) (w := w) (x := x)
  obtain ⟨hc, -⟩ := h
  simp only [c_chain_Param_Value, parD] at hat ⊢
  rcases hc with ⟨rfl, a1, a2, a3⟩ | ⟨rfl, a1⟩ | ⟨rfl, a1, a2⟩
  · have hv := cmvalue_ok a x a1 a2 hx1 (Nat.le_trans (Nat.mul_le_mul_left _ hx) a3)
    rw [show kindD ((1 : Nat) : Int) a = .ifc 245 (.int .i64 a) from rfl] at hkd
    rw [show valC 1 a x = valM a x from rfl]
    generalize valM a x = v at *
    simp only [rD] at hv ⊢
    refine G0 ?_; try with_reducible exact tt
    refine CallS.pf 2 1 ⟨3, _⟩ [.int .i64 x] (hat) (by first | rfl | (simp; done)) (R0 ?_); try with_reducible exact tt
    refine AW.cond rfl (fun h => ?_) (fun h => ?_)
    · simp at h
    refine G0 ?_; try with_reducible exact tt
    refine CallS.pu (hkd) (R0 ?_); try with_reducible exact tt
    refine ⟨_, meth_mvalue, ?_⟩
    refine CallS.pu (hv) (R0 ?_); try with_reducible exact tt
    trace_state
  · have hv := cfvalue_ok a x a1 hx1
    rw [show kindD ((2 : Nat) : Int) a = .ifc 246 (.int .i64 a) from rfl] at hkd
    rw [show valC 2 a x = ((valF a x : Nat) : Rat) from rfl]
    generalize ((valF a x : Nat) : Rat) = v at *
    simp only [rD] at hv ⊢
    refine G0 ?_; try with_reducible exact tt
    refine CallS.pf 2 1 ⟨3, _⟩ [.int .i64 x] (hat) (by first | rfl | (simp; done)) (R0 ?_); try with_reducible exact tt
    refine AW.cond rfl (fun h => ?_) (fun h => ?_)
    · simp at h
    refine G0 ?_; try with_reducible exact tt
    refine CallS.pu (hkd) (R0 ?_); try with_reducible exact tt
    refine ⟨_, meth_fvalue, ?_⟩
    refine CallS.pu (hv) (R0 ?_); try with_reducible exact tt
  · have hv := cyvalue_ok a x a1 a2 hx1
    rw [show kindD ((3 : Nat) : Int) a = .ifc 247 (.int .i64 a) from rfl] at hkd
    rw [show valC 3 a x = (((placeY a x).value : Nat) : Rat) from rfl]
    generalize (((placeY a x).value : Nat) : Rat) = v at *
    simp only [rD] at hv ⊢
    refine G0 ?_; try with_reducible exact tt
    refine CallS.pf 2 1 ⟨3, _⟩ [.int .i64 x] (hat) (by first | rfl | (simp; done)) (R0 ?_); try with_reducible exact tt
    refine AW.cond rfl (fun h => ?_) (fun h => ?_)
    · simp at h
    refine G0 ?_; try with_reducible exact tt
    refine CallS.pu (hkd) (R0 ?_); try with_reducible exact tt
    refine ⟨_, meth_yvalue, ?_⟩
    refine CallS.pu (hv) (R0 ?_); try with_reducible exact tt
end
end Go.Proofs.YtijbgbpjionfjaaGreatDoor.Am
namespace Go.Proofs.YtijbgbpjionfjaaGreatDoor.Am
section
open Go.RowKit
/-- a small parameter that may be -/
def SmallR (k a b : Nat) : Prop := k = 4 ∧ 1 ≤ a ∧ a ≤ 8 ∧ b ≤ 3 ∨ k ≠ 4 ∧ GoodS k a b
theorem goodR_of {k a b : Nat} (h : SmallR k a b) : GoodR k a b := by
  rcases h with ⟨rfl, h1, h2, h3⟩ | ⟨hk, h⟩
  · exact .inl ⟨rfl, h1, by omega, by omega⟩
  · exact .inr ⟨hk, goodC_of h⟩

theorem lown_ok (k a b : Int) : Eqn Tryz.prog n_Tlaw17_Own [.d (parD k a b)] [] (.d (parD k a b)) [] := by
  refine Eqn.pure r_Tlaw17_Own Plain.ok ?_
  simp only [c_Tlaw17_Own, parD]
  refine G0 ?_; try with_reducible exact tt
theorem and_tmod (y : Int) (m n : Nat) (hm : m ≤ 1000000) (hn : n ≤ 1000000) : ∃ (N Y : Nat), bits BinOp.and IntKind.i64 y (m : Int) = N ∧ IntKind.i64.wrap ((n : Int) + 1) = (n : Int) + 1 ∧ (N : Int).tmod ((n : Int) + 1) = Y ∧ Y ≤ n := by
  obtain ⟨N, h1, h2, h3⟩ := and_b y m (by omega)
  have hY : N % (n + 1) ≤ n := by have := Nat.mod_lt N (show 0 < n + 1 by omega); omega
  refine ⟨N, N % (n + 1), h1, w64 (by omega) (by omega), ?_, hY⟩
  rw [Int.tmod_eq_emod_of_nonneg (by omega)]; norm_cast

theorem lwithin_ok {k a b : Nat} (h : SmallR k a b) (y t : Int) (f : Bool) : ∃ (Y T : Nat) (F : Bool), WellR k a b Y T F ∧ Eqn Tryz.prog n_Tlaw17_Within [.d (parD k a b), .d (.agg [.int .i64 y, .int .i64 t, .bool f])] [] (.d (tsD Y T F)) [] := by
  rcases h with ⟨rfl, h1, h2, h3⟩ | ⟨hk, h⟩
  · obtain ⟨N1, Y, a1, a2, a3, a4⟩ := and_tmod y 7 a (by omega) (by omega)
    obtain ⟨N2, T, b1, b2, b3, b4⟩ := and_tmod t 3 b (by omega) (by omega)
    replace a1 : bits BinOp.and IntKind.i64 y 7 = N1 := a1
    replace b1 : bits BinOp.and IntKind.i64 t 3 = N2 := b1
    refine ⟨Y, T, f && (T == b), .inl ⟨rfl, a4, b4, by simp⟩, ?_⟩
    refine Eqn.pure r_Tlaw17_Within Plain.ok ?_
    have hF : ((T : Int) == (b : Int)) = (T == b) := by rw [Bool.eq_iff_iff]; simp; omega
    simp only [c_Tlaw17_Within, parD, tsD]
    generalize (T == b) = F at *
    cases f with
    | true =>
      refine G0B ?_; try with_reducible exact tt
      refine AW.cond rfl (fun h => ?_) (fun h => ?_)
      · refine G1B (fs a1 (fs a2 (fs a3 (fs b1 (fs b2 (fs b3 hF)))))) ?_; try with_reducible exact tt
      · simp at h
    | false =>
      refine G0B ?_; try with_reducible exact tt
      refine AW.cond rfl (fun h => ?_) (fun h => ?_)
      · refine G1B (fs a1 (fs a2 (fs a3 (fs b1 (fs b2 (fs b3 hF)))))) ?_; try with_reducible exact tt
      · simp at h
  · have hW : 2 ^ b - 1 ≤ 15 := by have := Nat.pow_le_pow_right (n := 2) (by omega) h.2.2; omega
    have hb2 : 0 < 2 ^ b := Nat.two_pow_pos b
    obtain ⟨N1, Y, a1, a2, a3, a4⟩ := and_tmod y 15 (2 ^ b - 1) (by omega) (by omega)
    replace a1 : bits BinOp.and IntKind.i64 y 15 = N1 := a1
    refine ⟨Y, 0, f && (Y == 2 ^ b - 1), .inr ⟨hk, rfl, a4, by simp⟩, ?_⟩
    refine Eqn.pure r_Tlaw17_Within Plain.ok ?_
    have hF : ((Y : Int) == ((2 ^ b - 1 : Nat) : Int)) = (Y == 2 ^ b - 1) := by rw [Bool.eq_iff_iff]; simp only [beq_iff_eq]; omega
    have e0 : (2 : Int) ^ b = (2 ^ b : Nat) := by rw [Int.natCast_pow]; rfl
    have hk' : ¬ (k : Int) = 4 := by omega
    have hb64 : b ≤ 64 := by have := h.2.2; omega
    simp only [c_Tlaw17_Within, parD, tsD]
    generalize (Y == 2 ^ b - 1) = F at *
    generalize 2 ^ b = S at *
    have e3 : IntKind.i64.wrap (S : Int) = S := w64 (by omega) (by omega)
    have e4 : IntKind.i64.wrap ((S : Int) - 1) = ((S - 1 : Nat) : Int) := by rw [w64 (by omega) (by omega)]; omega
    generalize S - 1 = S1 at *
    cases f with
    | true =>
      refine G1B (fs hk hk') ?_; try with_reducible exact tt
      refine AW.cond rfl (fun h => ?_) (fun h => ?_)
      · simp [hk'] at h
      · refine G1B (fs a1 (fs a2 (fs a3 (fs e0 (fs e3 (fs e4 (fs hF hb64))))))) ?_; try with_reducible exact tt
    | false =>
      refine G1B (fs hk hk') ?_; try with_reducible exact tt
      refine AW.cond rfl (fun h => ?_) (fun h => ?_)
      · simp [hk'] at h
      · refine G1B (fs a1 (fs a2 (fs a3 (fs e0 (fs e3 (fs e4 (fs hF hb64))))))) ?_; try with_reducible exact tt

/-- what a small parameter is made of -/
theorem lsmall_ok (k a b : Int) : ∃ K A B : Nat, SmallR K A B ∧ ∀ (y t : Int) (f : Bool), ∃ (Y T : Nat) (F : Bool), WellR K A B Y T F ∧ Eqn Tryz.prog n_Tlaw17_Small [.d (parD k a b), .d (.agg [.int .i64 y, .int .i64 t, .bool f])] [] (.tup [.d (parD K A B), .d (tsD Y T F)]) [] := by
  obtain ⟨e1, K, e2, hK, e3⟩ := tmod_r k 4 (by omega) (by omega)
  obtain ⟨B1, B2, b1, b2, b3, b4⟩ := and_tmod b 255 3 (by omega) (by omega)
  replace b1 : bits BinOp.and IntKind.i64 b 255 = B1 := b1
  replace b3 : (B1 : Int).tmod 4 = B2 := b3
  obtain ⟨B3, d1, d2, d3⟩ := and_b b 3 (by omega)
  obtain ⟨A1, a1, a2, a3⟩ := and_b a 3 (by omega)
  obtain ⟨A2, a4, a5, a6⟩ := and_b a 1 (by omega)
  obtain ⟨A3, a7, a8, a9⟩ := and_b a 7 (by omega)
  replace a1 : bits BinOp.and IntKind.i64 a 3 = A1 := a1
  replace a4 : bits BinOp.and IntKind.i64 a 1 = A2 := a4
  replace a7 : bits BinOp.and IntKind.i64 a 7 = A3 := a7
  replace d1 : bits BinOp.and IntKind.i64 b 3 = B3 := d1
  have e4 : IntKind.i64.wrap (1 + (B2 : Int)) = ((1 + B2 : Nat) : Int) := by rw [w64 (by omega) (by omega)]; omega
  have hK' : K = 0 ∨ K = 1 ∨ K = 2 ∨ K = 3 := by omega
  rcases hK' with rfl | rfl | rfl | rfl
  · refine ⟨1, 1 + A1, 1 + B2, .inr ⟨by omega, by omega, by omega, by omega⟩, fun y t f => ?_⟩
    obtain ⟨Y, T, F, hw, hE⟩ := lwithin_ok (k := 1) (a := 1 + A1) (b := 1 + B2) (.inr ⟨by omega, by omega, by omega, by omega⟩) y t f
    refine ⟨Y, T, F, hw, ?_⟩
    refine Eqn.pure r_Tlaw17_Small Plain.ok ?_
    simp only [c_Tlaw17_Small, parD, tsD] at hE ⊢
    generalize 1 + A1 = XA at *
    generalize 1 + B2 = XB at *
    refine G1B (fs e1 (fs e2 e3)) ?_; try with_reducible exact tt
    refine AW.cond rfl (fun h => ?_) (fun h => ?_)
    · refine G1B (fs b1 (fs b3 (fs e4 (fs a1 a3)))) ?_; try with_reducible exact tt
      simp at hE
      refine CallS.pu (hE) (R0B ?_); try with_reducible exact tt
    · simp at h
  · refine ⟨2, A2, 1 + B2, .inr ⟨by omega, by omega, by omega, by omega⟩, fun y t f => ?_⟩
    obtain ⟨Y, T, F, hw, hE⟩ := lwithin_ok (k := 2) (a := A2) (b := 1 + B2) (.inr ⟨by omega, by omega, by omega, by omega⟩) y t f
    refine ⟨Y, T, F, hw, ?_⟩
    refine Eqn.pure r_Tlaw17_Small Plain.ok ?_
    simp only [c_Tlaw17_Small, parD, tsD] at hE ⊢
    generalize 1 + B2 = XB at *
    refine G1B (fs e1 (fs e2 e3)) ?_; try with_reducible exact tt
    refine AW.cond rfl (fun h => ?_) (fun h => ?_)
    · simp at h
    refine G0B ?_; try with_reducible exact tt
    refine AW.cond rfl (fun h => ?_) (fun h => ?_)
    · refine G1B (fs b1 (fs b3 (fs e4 a4))) ?_; try with_reducible exact tt
      simp at hE
      refine CallS.pu (hE) (R0B ?_); try with_reducible exact tt
    · simp at h
  · refine ⟨3, 1 + A2, 1 + B2, .inr ⟨by omega, by omega, by omega, by omega⟩, fun y t f => ?_⟩
    obtain ⟨Y, T, F, hw, hE⟩ := lwithin_ok (k := 3) (a := 1 + A2) (b := 1 + B2) (.inr ⟨by omega, by omega, by omega, by omega⟩) y t f
    refine ⟨Y, T, F, hw, ?_⟩
    refine Eqn.pure r_Tlaw17_Small Plain.ok ?_
    simp only [c_Tlaw17_Small, parD, tsD] at hE ⊢
    generalize 1 + A2 = XA at *
    generalize 1 + B2 = XB at *
    refine G1B (fs e1 (fs e2 e3)) ?_; try with_reducible exact tt
    refine AW.cond rfl (fun h => ?_) (fun h => ?_)
    · simp at h
    refine G0B ?_; try with_reducible exact tt
    refine AW.cond rfl (fun h => ?_) (fun h => ?_)
    · simp at h
    refine G0B ?_; try with_reducible exact tt
    refine AW.cond rfl (fun h => ?_) (fun h => ?_)
    · refine G1B (fs b1 (fs b3 (fs e4 (fs a4 a6)))) ?_; try with_reducible exact tt
      simp at hE
      refine CallS.pu (hE) (R0B ?_); try with_reducible exact tt
    · simp at h
  · refine ⟨4, 1 + A3, B3, .inl ⟨rfl, by omega, by omega, by omega⟩, fun y t f => ?_⟩
    obtain ⟨Y, T, F, hw, hE⟩ := lwithin_ok (k := 4) (a := 1 + A3) (b := B3) (.inl ⟨rfl, by omega, by omega, by omega⟩) y t f
    refine ⟨Y, T, F, hw, ?_⟩
    refine Eqn.pure r_Tlaw17_Small Plain.ok ?_
    simp only [c_Tlaw17_Small, parD, tsD] at hE ⊢
    generalize 1 + A3 = XA at *
    refine G1B (fs e1 (fs e2 e3)) ?_; try with_reducible exact tt
    refine AW.cond rfl (fun h => ?_) (fun h => ?_)
    · simp at h
    refine G0B ?_; try with_reducible exact tt
    refine AW.cond rfl (fun h => ?_) (fun h => ?_)
    · simp at h
    refine G0B ?_; try with_reducible exact tt
    refine AW.cond rfl (fun h => ?_) (fun h => ?_)
    · simp at h
    · refine G1B (fs d1 (fs a7 a9)) ?_; try with_reducible exact tt
      simp at hE
      refine CallS.pu (hE) (R0B ?_); try with_reducible exact tt
end
end Go.Proofs.YtijbgbpjionfjaaGreatDoor.Am
namespace Go.Proofs.YtijbgbpjionfjaaGreatDoor.Am
section
open Go.RowKit
end
end Go.Proofs.YtijbgbpjionfjaaGreatDoor.Am
namespace Go.Proofs.YtijbgbpjionfjaaGreatDoor.Am
section
open Go.RowKit
end
end Go.Proofs.YtijbgbpjionfjaaGreatDoor.Am
namespace Go.Proofs.YtijbgbpjionfjaaGreatDoor.Am
section
open Go.RowKit

theorem fnOf_enter {P : Program} {f : FuncId} {c : C} {rs : List RV} {nt : Nat} (hf : fnOf P f = some (c, rs, nt, false)) (vs : Array Value) (w : World) : (callFunc f vs).run P w = .ok (.enter f vs) w := by
  unfold fnOf at hf
  split at hf
  · rename_i fn hfn
    split at hf
    · rename_i b hb
      simp only [Option.some.injEq, Prod.mk.injEq] at hf
      obtain ⟨h1, h2, h3, h4⟩ := hf
      have h1 : ¬ fn.name = "runtime.NumGoroutine" := by simpa using h4
      simp [callFunc, hfn, h1, hb]
    · cases hf
  · cases hf

/-- the world that a law finds: nothing has a name, what is there stays -/
abbrev memW (W : World) : Mem := ⟨fun _ => none, fun b => b < W.heap.size, W⟩

theorem law_walk {P : Program} {f : FuncId} {args : List V} {c : C} {rs : List RV} {nt : Nat} (hf : fnOf P f = some (c, rs, nt, false)) (E : Eqn P f args [] (.d (.bool true)) []) {W : World} {vs : List Value} (h : V.reps (memW W) args vs) :
    Calls P f vs.toArray W (fun e W' => e = .returned (.bool true) ∧ Same W W') := by
  rcases E.run (memW W) vs ⟨fun b h => h, fun n b h => by cases h⟩ h (by simp) (fun n i b h => by simp at h) (fun _ _ => rfl) with ⟨v, h1, _⟩ | ⟨_, h2⟩
  · rw [fnOf_enter hf] at h1; cases h1
  · refine h2.mono ?_
    rintro e w' ⟨v, m', rfl, rfl, hE⟩
    have hv := hE.rep
    rw [V.rep_d] at hv
    unfold D.rep at hv
    subst hv
    exact ⟨rfl, hE.le.os, hE.le.tape, hE.le.output, hE.le.size, fun k hk _ => hE.le.imm k hk⟩

theorem reps_of {I : Nat → Prop} {w : World} {α : Type} (f : α → D) (g : α → Value) (h : ∀ a, D.rep I w (f a) (g a)) : ∀ l : List α, D.reps I w (l.map f) (l.map g)
  | [] => by simp
  | a :: l => by
    rw [List.map_cons, List.map_cons, D.reps_cons]
    exact ⟨h a, reps_of f g h l⟩

/-- a slice that came in, of cells that are data -/
theorem rep_cells {W : World} {v : Value} {α : Type} {l : List α} (f : α → D) (g : α → Value) (hg : ∀ a, (g a).oneCell' = true) (hr : ∀ a, D.rep (fun b => b < W.heap.size) W (f a) (g a)) (h : Cells W v 1 l.length (l.map g)) : V.rep (memW W) (.d (.sl l.length (l.map f))) v := by
  rw [V.rep_d]
  unfold D.rep
  obtain ⟨h1, p, cap, rfl, h2, h3, h4⟩ := h
  refine ⟨p, cap, rfl, h2, h3, l.map g, fun u hu => ?_, reps_of f g hr l, ?_⟩
  · obtain ⟨a, -, rfl⟩ := List.mem_map.1 hu
    exact hg a
  · rcases h4 with ⟨rfl, h5, h6⟩ | ⟨b, o, rfl, hb, hc⟩
    · left
      exact ⟨rfl, h6, by rw [List.eq_nil_of_length_eq_zero h5]; rfl⟩
    · exact .inr ⟨b, o, rfl, .inr hb, hc⟩

/-- bools that came in -/
theorem rep_bools {W : World} {v : Value} {cs : List Bool} (h : Bools W v cs) : V.rep (memW W) (.d (.sl cs.length (cs.map .bool))) v :=
  rep_cells D.bool Value.bool (fun _ => rfl) (fun _ => by unfold D.rep; rfl) h
theorem bools_len {W : World} {v : Value} {cs : List Bool} (h : Bools W v cs) : cs.length ≤ maxLen := h.len

/-- numbers and bools that came in -/
theorem rep_agg {W : World} {l : List D} {vs : List Value} (h1 : ∀ u ∈ vs, u.oneCell' = true) (h : D.reps (fun b => b < W.heap.size) W l vs) : V.rep (memW W) (.d (.agg l)) (.agg vs.toArray) := by
  rw [V.rep_d]
  unfold D.rep
  exact ⟨vs, rfl, h1, h⟩
end
end Go.Proofs.YtijbgbpjionfjaaGreatDoor.Am
namespace Go.Proofs.YtijbgbpjionfjaaGreatDoor.Am
section
open Go.RowKit
/-- what an act comes to: n more, or another one merged into it -/
def actM (cs : List Bool) (k a b y t : Nat) (f : Bool) (z u : Nat) (g : Bool) (n : Nat) (m : Bool) (p : Nat) (d : Bool) : TR := if m then mergeRM cs k a b y t f z u g p d else addRM cs k a b n y t f p d
end
end Go.Proofs.YtijbgbpjionfjaaGreatDoor.Am
namespace Go.Proofs.YtijbgbpjionfjaaGreatDoor.Am
section
open Go.RowKit
theorem tvalue_ok {a b y t : Nat} {f : Bool} (h : GoodT a b) (hw : WellT a b y t f) : Eqn Tryz.prog n_thin_Param_Value [.d (tpD a b), .d (tsD y t f)] [] (.tup [.d (.agg [natW (y * 2 ^ t)]), .d (.int .i64 0)]) [] := by
  refine Eqn.pure r_thin_Param_Value Plain.ok ?_
  have hwr := twrong1_ok h hw
  have hy : y ≤ 1023 := Nat.le_trans hw.1 h.2.1
  have ht : t ≤ 20 := Nat.le_trans hw.2.1 h.2.2
  have hof : Eqn Tryz.prog n_nat_Of [.d (.sl 1 [.int .u64 y])] [] (.d (.agg [natW y])) [] := by
    have := of_ok [y] (small_one (by omega)) (by simp)
    simpa [W, wval] using this
  have hsh := shl_ok y t (Nat.le_trans (size_one (by omega)) (by omega)) (by omega)
  have e1 : IntKind.u64.wrap (y : Int) = y := wu64 (by omega) (by omega)
  generalize y * 2 ^ t = v at *
  simp only [c_thin_Param_Value, tpD, tsD] at hwr ⊢
  refine G0B ?_; try with_reducible exact tt
  refine CallS.pf 3 3 ⟨139, _⟩ [.int .i64 y, .int .i64 t, .bool f] (hwr) (by first | rfl | (simp [-Bool.exists_bool]; done)) (R0B ?_); try with_reducible exact tt
  refine AW.cond rfl (fun h => ?_) (fun h => ?_)
  · simp at h
  refine G1B e1 ?_; try with_reducible exact tt
  refine CallS.pf 4 1 ⟨28, _⟩ [.int .u64 (y : Nat)] (hof) (by first | rfl | (simp [-Bool.exists_bool]; done)) (R0B ?_); try with_reducible exact tt
  refine CallS.pu (hsh) (R0B ?_); try with_reducible exact tt

/-- what a register stands for -/
def valR (k a b y t : Nat) : Rat := if k = 4 then ((y * 2 ^ t : Nat) : Rat) else valC k a y
theorem rvalue_ok {k a b y t : Nat} {f : Bool} (h : GoodR k a b) (hw : WellR k a b y t f) : Eqn Tryz.prog n_reg_Param_Value [.d (parD k a b), .d (tsD y t f)] [] (.tup [.d (rD (valR k a b y t)), .d (.int .i64 0)]) [] := by
  refine Eqn.pure r_reg_Param_Value Plain.ok ?_
  have hwr := rwrong1_ok h hw
  rcases hw with ⟨rfl, hw⟩ | ⟨hk, rfl, hy, hf⟩
  · replace h : GoodT a b := by
      rcases h with ⟨-, h⟩ | ⟨hk, -⟩
      · exact h
      · exact absurd rfl hk
    have h1 := rthin_ok 4 a b
    have h2 := rthinned_ok y t f
    have h3 := tvalue_ok h hw
    have h4 := rnat_rat (y * 2 ^ t)
    rw [show valR 4 a b y t = ((y * 2 ^ t : Nat) : Rat) from rfl]
    generalize y * 2 ^ t = v at *
    generalize ((v : Nat) : Rat) = q at *
    simp only [c_reg_Param_Value, parD, tpD, tsD, rD, show ((4 : Nat) : Int) = 4 from rfl] at hwr h1 h2 h3 h4 ⊢
    refine G0B ?_; try with_reducible exact tt
    refine CallS.pf 3 3 ⟨64, _⟩ [.int .i64 y, .int .i64 t, .bool f] (hwr) (by first | rfl | (simp [-Bool.exists_bool]; done)) (R0B ?_); try with_reducible exact tt
    refine AW.cond rfl (fun h => ?_) (fun h => ?_)
    · simp at h
    refine G0B ?_; try with_reducible exact tt
    refine AW.cond rfl (fun h => ?_) (fun h => ?_)
    · refine G0B ?_; try with_reducible exact tt
      refine CallS.pu (h1) (R0B ?_); try with_reducible exact tt
      refine CallS.pu (h2) (R0B ?_); try with_reducible exact tt
      refine CallS.pu (h3) (R0B ?_); try with_reducible exact tt
      refine CallS.pu (h4) (R0B ?_); try with_reducible exact tt
    · simp at h
  · rcases h with ⟨rfl, -⟩ | ⟨-, h⟩
    · exact absurd rfl hk
    have h1 := rchain_ok k a b
    have h3 := cvalue_ok h y hy
    have hk' : ¬ (k : Int) = 4 := by omega
    rw [show valR k a b y 0 = valC k a y from if_neg hk]
    generalize valC k a y = q at *
    simp only [c_reg_Param_Value, parD, tsD, rD] at hwr h1 h3 ⊢
    refine G0B ?_; try with_reducible exact tt
    refine CallS.pf 3 3 ⟨64, _⟩ [.int .i64 y, .int .i64 (0 : Nat), .bool f] (hwr) (by first | rfl | (simp [-Bool.exists_bool]; done)) (R0B ?_); try with_reducible exact tt
    refine AW.cond rfl (fun h => ?_) (fun h => ?_)
    · simp at h
    refine G1B (fs hk hk') ?_; try with_reducible exact tt
    refine AW.cond rfl (fun h => ?_) (fun h => ?_)
    · simp [hk'] at h
    · refine G0B ?_; try with_reducible exact tt
      refine CallS.pu (h1) (R0B ?_); try with_reducible exact tt
      refine CallS.pu (h3) (R0B ?_); try with_reducible exact tt
end
end Go.Proofs.YtijbgbpjionfjaaGreatDoor.Am
namespace Go.Proofs.YtijbgbpjionfjaaGreatDoor.Am
section
open Go.RowKit
end
end Go.Proofs.YtijbgbpjionfjaaGreatDoor.Am
namespace Go.Proofs.YtijbgbpjionfjaaGreatDoor.Am
section
open Go.RowKit
theorem nat_RS {n N : Nat} (h : size n ≤ N) (h1 : 1 ≤ N) : RS ((n : Nat) : Rat) N := by
  refine ⟨?_, ?_⟩
  · rw [Rat.num_natCast, Int.natAbs_natCast]; exact h
  · rw [Rat.den_natCast]; exact Nat.le_trans (size_one (by omega)) h1
theorem valC_RS {k a w x : Nat} (h : GoodC k a w) (hx : x ≤ 2 ^ w - 1) : RS (valC k a x) 1000 := by
  have h10 : 2 ^ w ≤ 2 ^ 10 := Nat.pow_le_pow_right (by omega) h.2.2
  have hb := goodC_bits (a := a) (w := w) (x := x)
  obtain ⟨h, -⟩ := id h
  unfold valC
  rcases h with ⟨rfl, h1, h2, h3⟩ | ⟨rfl, h1⟩ | ⟨rfl, h1, h2⟩
  · rw [if_pos rfl]
    exact (mvalue_ok a x h1 h2 (by omega) (Nat.le_trans (Nat.mul_le_mul_left _ hx) h3)).2.le (by omega)
  · refine nat_RS ?_ (by omega)
    have hd : 2 ^ a ≤ 2 ^ 8 := Nat.pow_le_pow_right (by omega) h1
    have hm := Nat.mod_lt x (Nat.two_pow_pos a)
    have hdv : x / 2 ^ a ≤ 1023 := Nat.le_trans (Nat.div_le_self _ _) (by omega)
    have hs := size_le (show valF a x ≤ (2 ^ a + x % 2 ^ a) * 2 ^ (x / 2 ^ a) from Nat.sub_le _ _)
    have h3 := size_mulR (2 ^ a + x % 2 ^ a) (2 ^ (x / 2 ^ a))
    have h4 := size_one (x := 2 ^ a + x % 2 ^ a) (by omega)
    have h5 := size_two (x / 2 ^ a) (by omega)
    omega
  · exact nat_RS (Nat.le_trans (placeY_size h1 h2 (by omega)).2.2.1 (by omega)) (by omega)
end
end Go.Proofs.YtijbgbpjionfjaaGreatDoor.Am
namespace Go.Proofs.YtijbgbpjionfjaaGreatDoor.Am
section
open Go.RowKit
theorem rowsD_len (k a b : Nat) (rs : List Rw) : (rowsD k a b rs).length = rs.length * 3 := flat_len (fun x => by simp [rowD]) rs
theorem rowsD_get (k a b : Nat) (rs : List Rw) (i : Nat) (h : i < rs.length) : ((rowsD k a b rs).drop (i * 3)).take 3 = [.int .u64 rs[i].a, .int .u64 rs[i].b, .ptr (arrD k a b rs[i].l) 0] := flat_get (f := rowD k a b) (fun x => by simp [rowD]) rs i h

theorem shashes_ok {R C k a b T : Nat} (rs : List Rw) (h0 : 1 ≤ rs.length) (hn : rs.length ≤ 4) :
    Eqn Tryz.prog n_cms_Sketch_Hashes [.p 0 0] [skO R C k a b rs T] (.own 1 2 rs.length) [skO R C k a b rs T, ⟨62, (hashesD (rs.map fun r => (r.a, r.b))).map .d⟩] := by
  refine Eqn.gen [0, 1] r_cms_Sketch_Hashes (by simp) (by simp) (by rfl) (by decide) (by simp) (by simp [skO, skD]) ?_
  have hl := rowsD_len k a b rs
  obtain ⟨F, hF⟩ : ∃ F : Nat → List D, F = fun i => hashesD ((rs.take i).map fun r => (r.a, r.b)) := ⟨_, rfl⟩
  have hF0 : F 0 = [] := by rw [hF]; simp [hashesD]
  have hFn : hashesD (rs.map fun r => (r.a, r.b)) = F rs.length := by rw [hF]; simp
  have hFl : ∀ i, i ≤ rs.length → (F i).length = i * 2 := by
    intro i hi
    rw [hF]
    show (hashesD ((rs.take i).map fun r => (r.a, r.b))).length = i * 2
    unfold hashesD
    rw [flat_len (n := 2) (fun x => by simp), List.length_map, List.length_take]; omega
  have hFs : ∀ i (h : i < rs.length), F (i + 1) = F i ++ [.int .u64 rs[i].a, .int .u64 rs[i].b] := by
    intro i hi
    rw [hF]
    show hashesD ((rs.take (i + 1)).map fun r => (r.a, r.b)) = hashesD ((rs.take i).map fun r => (r.a, r.b)) ++ _
    rw [take_next _ _ hi, List.map_append, hashesD, List.flatMap_append]; simp [hashesD]
  have hgt := rowsD_get k a b rs
  rw [hFn]
  clear hF hFn
  simp only [c_cms_Sketch_Hashes, skO, skD, List.map_cons, List.map_nil]
  generalize rowsD k a b rs = RD at *
  refine G0 ?_; try with_reducible exact tt
  refine AW.loopG (α := Nat) (fun i => setS (List.replicate 22 .junk) [(3, if i = 0 then .d .nilsl else .own 1 2 i), (9, .d (.sl rs.length RD)), (10, .d (.int .i64 rs.length)), (11, .d (.int .i64 (i : Int)))]) (fun i => some ⟨106, [.d (.int .i64 R), .d (.int .i64 C), .d (.int .i64 k), .d (.int .i64 a), .d (.int .i64 b), .d (.sl rs.length RD), .d (.int .i64 T)]⟩ :: (if i = 0 then [] else [some ⟨62, (F i).map .d⟩])) (fun i => i ≤ rs.length) (fun i => rs.length - i) 0 ?_ (Nat.zero_le _) ?_ ?_ ?_
  · intro i hi; split <;> simp
  · simp
  · simp
  rintro i hi
  by_cases hiN : i < rs.length
  · have hi1 : (i : Int) < rs.length := by omega
    have hg := hgt i hiN
    have hsn := hFs i hiN
    have hbd : i * 3 + 3 ≤ rs.length * 3 := by omega
    have ew : IntKind.i64.wrap ((i : Int) + 1) = (i : Int) + 1 := w64 (by omega) (by omega)
    generalize rs[i].a = x1 at *
    generalize rs[i].b = x2 at *
    generalize rs[i].l = x3 at *
    by_cases hi0 : i = 0
    · subst hi0
      simp [hF0] at hg hsn
      simp
      refine A10 (fs hiN (fs hi1 (fs hg hl))) ?_; try with_reducible exact tt
      refine ⟨1, 1, 3, by simp, by omega, by omega, ?_, ?_⟩
      · simp [swT, swH, sw, Ob.sw, V.ren, V.rens]
      · simp [swT, swH, sw, Ob.sw, V.ren, V.rens, hsn]
    · rw [if_neg hi0, if_neg hi0]
      have hfl := hFl i hi
      simp
      refine A10 (fs hiN (fs hi1 (fs hg (fs hl (fs hbd (fs hfl ew)))))) ?_; try with_reducible exact tt
      refine ⟨i + 1, 1, 4, by simp, by omega, by omega, ?_, ?_⟩
      · simp [swT, swH, sw, Ob.sw, V.ren, V.rens]
      · simp [swT, swH, sw, Ob.sw, V.ren, V.rens, hsn]
  · have h2 : i = rs.length := by omega
    subst h2
    have hz : rs.length ≠ 0 := by omega
    rw [if_neg hz, if_neg hz]
    simp
    refine A00 ?_; try with_reducible exact tt

/-- the value of a key's register in a row; the least of them, of the first i rows -/
def valAt (C k a b key : Nat) (r : Rw) : Rat := valR k a b (r.l.getD (colOf C r.a r.b key) (0, 0, false)).1 (r.l.getD (colOf C r.a r.b key) (0, 0, false)).2.1
def leastQ (f : Nat → Rat) : Nat → Rat
  | 0 => 0
  | i + 1 => if i = 0 ∨ f i < leastQ f i then f i else leastQ f i
def valsOf (C k a b key : Nat) (rs : List Rw) (i : Nat) : Rat := match rs[i]? with
  | some r => valAt C k a b key r
  | none => 0
theorem valR_RS {k a b y t : Nat} {f : Bool} (h : GoodR k a b) (hw : WellR k a b y t f) : RS (valR k a b y t) 1000 := by
  unfold valR
  rcases hw with ⟨rfl, hw⟩ | ⟨hk, rfl, hy, hf⟩
  · replace h : GoodT a b := by
      rcases h with ⟨-, h⟩ | ⟨hk, -⟩
      · exact h
      · exact absurd rfl hk
    rw [if_pos rfl]
    have h1 : y ≤ 1023 := Nat.le_trans hw.1 h.2.1
    have h2 : t ≤ 20 := Nat.le_trans hw.2.1 h.2.2
    have h3 : 2 ^ t ≤ 2 ^ 20 := Nat.pow_le_pow_right (by omega) h2
    have h4 := Nat.mul_le_mul h1 h3
    exact (nat_RS (size_one (by omega)) (by omega)).le (by omega)
  · rcases h with ⟨rfl, -⟩ | ⟨-, h⟩
    · exact absurd rfl hk
    · rw [if_neg hk]; exact valC_RS h hy
theorem valAt_RS {C k a b key : Nat} (hg : GoodR k a b) (r : Rw) (hr : GoodRow C k a b r) (h1 : 1 ≤ C) : RS (valAt C k a b key r) 1000 := by
  obtain ⟨-, -, hl, hw⟩ := hr
  exact valR_RS hg (wells_get hw (show colOf C r.a r.b key < r.l.length by rw [hl]; exact Nat.mod_lt _ (by omega)))
theorem leastQ_RS {f : Nat → Rat} : ∀ n, (∀ i, i < n → RS (f i) 1000) → RS (leastQ f n) 1000
  | 0, _ => ⟨Nat.zero_le _, Nat.le_trans (size_one (by unfold leastQ; decide)) (by omega)⟩
  | n + 1, h => by
    unfold leastQ
    split
    · exact h n (by omega)
    · exact leastQ_RS n fun i hi => h i (by omega)

set_option maxHeartbeats 1000000 in
theorem squery_ok {R C k a b T : Nat} (hg : GoodR k a b) (rs : List Rw) (h1 : 1 ≤ C) (hC : C ≤ 64) (hn0 : 1 ≤ rs.length) (hn : rs.length ≤ 4) (hr : ∀ r ∈ rs, GoodRow C k a b r) (key : Nat) (hk : key < hP) :
    Eqn Tryz.prog n_cms_Sketch_Query [.p 0 0, .d (.int .u64 key)] [skO R C k a b rs T] (.tup [.d (rD (leastQ (valsOf C k a b key rs) rs.length)), .d (.int .i64 0)]) [skO R C k a b rs T] := by
  refine Eqn.gen [0] r_cms_Sketch_Query (by simp) (by simp) (by rfl) (by decide) (by simp) (by simp [skO, skD]) ?_
  have hRS : ∀ i, i < rs.length → RS (valsOf C k a b key rs i) 1000 := by
    intro i hi
    unfold valsOf
    rw [List.getElem?_eq_getElem hi]
    exact valAt_RS hg _ (hr _ (List.getElem_mem _)) h1
  have hL : ∀ i, i ≤ rs.length → RS (leastQ (valsOf C k a b key rs) i) 1000 := fun i hi => leastQ_RS i fun j hj => hRS j (by omega)
  have hrl := rowsD_len k a b rs
  have hgr := rowsD_get k a b rs
  have hv : ∀ i (h : i < rs.length), valsOf C k a b key rs i = valAt C k a b key rs[i] := by
    intro i h
    unfold valsOf
    rw [List.getElem?_eq_getElem h]
  have hst : ∀ i, leastQ (valsOf C k a b key rs) (i + 1) = if i = 0 ∨ valsOf C k a b key rs i < leastQ (valsOf C k a b key rs) i then valsOf C k a b key rs i else leastQ (valsOf C k a b key rs) i := fun i => rfl
  have h00 : leastQ (valsOf C k a b key rs) 0 = 0 := rfl
  simp only [c_cms_Sketch_Query, skO, skD, List.map_cons, List.map_nil]
  generalize rowsD k a b rs = RD at *
  generalize valsOf C k a b key rs = f at *
  generalize leastQ f = g at *
  refine G0 ?_; try with_reducible exact tt
  refine AW.loopT (α := Nat) 3 (fun i => [(19, .d (.int .i64 (i : Int)))]) (fun i => [(2, ⟨51, [.d (natW (g i).num.natAbs), .d (.bool (decide ((g i).num < 0))), .d (natW ((g i).den - 1))]⟩)]) (fun i => i ≤ rs.length) (fun i => rs.length - i) 0 ?_ ?_ (Nat.zero_le _) ?_ ?_ ?_
  · simp
  · simp
  · simp
  · rw [h00, show natW (Rat.num 0).natAbs = .sl 0 [] from rfl, show natW ((Rat.den 0) - 1) = .sl 0 [] from rfl, show decide (Rat.num 0 < 0) = false from rfl]
    simp
    intro m vs h
    obtain ⟨v1, r1, rfl, k1, h⟩ := V.reps_cons'.1 h
    obtain ⟨v2, r2, rfl, k2, h⟩ := V.reps_cons'.1 h
    obtain ⟨v3, r3, rfl, k3, h⟩ := V.reps_cons'.1 h
    exact V.reps_cons.2 ⟨Sub1.nil _ _ k1, V.reps_cons.2 ⟨k2, V.reps_cons.2 ⟨Sub1.nil _ _ k3, h⟩⟩⟩
  rintro i hi
  simp
  by_cases hiN : i < rs.length
  · have hi1 : (i : Int) < rs.length := by omega
    have hgi := hgr i hiN
    have hri := hr _ (List.getElem_mem hiN)
    have hvi := hv i hiN
    have hbd : i * 3 + 3 ≤ rs.length * 3 := by omega
    have ew : IntKind.i64.wrap ((i : Int) + 1) = (i : Int) + 1 := w64 (by omega) (by omega)
    generalize rs[i] = r at *
    obtain ⟨hA, hB, hl, hw⟩ := hri
    have hof := hof_ok r.a r.b key C hA hB hk h1 hC
    rw [show hsum r.a r.b key % C = colOf C r.a r.b key from rfl] at hof
    have hcol : colOf C r.a r.b key < C := Nat.mod_lt _ (by omega)
    have hget := cgetD_ok r.l (colOf C r.a r.b key) hg hw (by omega) (by omega)
    have hval := rvalue_ok hg (wells_get hw (show colOf C r.a r.b key < r.l.length by omega))
    unfold valAt at hvi
    rw [← hvi] at hval
    have hcmp := rcmp_rat (f i) (g i) ((hRS i hiN).le (by omega)) ((hL i hi).le (by omega))
    have hsi := hst i
    generalize colOf C r.a r.b key = col at *
    generalize r.l.getD col (0, 0, false) = s at *
    obtain ⟨y, t, fl⟩ := s
    simp only [hD, tsD, rD, parD] at hof hget hval hcmp
    generalize f i = fi at *
    generalize arrD k a b r.l = AD at *
    generalize r.a = A at *
    generalize r.b = B at *
    by_cases hi0 : i = 0
    · rw [if_pos (.inl hi0)] at hsi
      subst hi0
      simp at hgi
      refine A13 (fs hiN (fs hi1 (fs hgi hrl))) hof hget hval ?_; try with_reducible exact tt
      refine ⟨1, by omega, by omega, by simp, ?_⟩
      simp [hsi]
    · have hi0' : ¬ (i : Int) = 0 := by omega
      by_cases hlt : fi < g i
      · rw [if_pos (.inr hlt)] at hsi
        have hc : cmpQ fi (g i) = -1 := by unfold cmpQ; rw [if_pos hlt]
        rw [hc] at hcmp
        refine A14 (fs hiN (fs hi1 (fs hgi (fs hrl (fs hbd (fs ew (fs hi0 hi0'))))))) hof hget hval hcmp ?_; try with_reducible exact tt
        refine ⟨i + 1, by omega, by omega, by simp, ?_⟩
        simp [hsi]
      · rw [if_neg (by rintro (h | h); exact hi0 h; exact hlt h)] at hsi
        have hc : ¬ cmpQ fi (g i) < 0 := by unfold cmpQ; rw [if_neg hlt]; split <;> omega
        generalize cmpQ fi (g i) = c at *
        refine A14 (fs hiN (fs hi1 (fs hgi (fs hrl (fs hbd (fs ew (fs hi0 (fs hi0' hc)))))))) hof hget hval hcmp ?_; try with_reducible exact tt
        refine ⟨i + 1, by omega, by omega, by simp, ?_⟩
        simp [hsi]
  · have h2 : i = rs.length := by omega
    subst h2
    simp only [rD]
    refine A00 ?_; try with_reducible exact tt
end
end Go.Proofs.YtijbgbpjionfjaaGreatDoor.Am
namespace Go.Proofs.YtijbgbpjionfjaaGreatDoor.Am
section
open Go.RowKit
/-- a draw, as data -/
def drD (r c k a b : Int) (ws : List Nat) : D := .agg [.int .i64 r, .int .i64 c, .int .i64 k, .int .i64 a, .int .i64 b, .sl ws.length (ws.map fun x : Nat => .int .u64 x)]

theorem dparam_ok (r c k a b : Int) (ws : List Nat) : ∃ R C K A B : Nat, GoodP R C K A B ∧ (R : Int) = 1 + bits BinOp.and IntKind.i64 r 3 ∧ Eqn Tryz.prog n_Tlaw21_Draw_Param [.d (drD r c k a b ws)] [] (.d (cpD R C K A B)) [] := by
  obtain ⟨K, A, B, hsr, hsm⟩ := lsmall_ok k a b
  obtain ⟨Y, T, F, hw, hs1⟩ := hsm 0 0 false
  have hown := lown_ok K A B
  obtain ⟨r1, hr1, hr2, hr3⟩ := and_b r 3 (by omega)
  obtain ⟨c1, hc1, hc2, -⟩ := and_b c 255 (by omega)
  replace hr1 : bits BinOp.and IntKind.i64 r 3 = r1 := hr1
  replace hc1 : bits BinOp.and IntKind.i64 c 255 = c1 := hc1
  have e1 : IntKind.i64.wrap (1 + (c1 : Int) % 64) = ((1 + c1 % 64 : Nat) : Int) := by rw [w64 (by omega) (by omega)]; omega
  have e2 : (c1 : Int).tmod 64 = (c1 : Int) % 64 := by rw [Int.tmod_eq_emod_of_nonneg (by omega)]
  refine ⟨1 + r1, 1 + c1 % 64, K, A, B, ⟨by omega, by omega, by omega, by omega, goodR_of hsr⟩, by rw [hr1]; omega, ?_⟩
  refine Eqn.pure r_Tlaw21_Draw_Param Plain.ok ?_
  simp only [c_Tlaw21_Draw_Param, drD, parD, cpD, tsD] at hs1 hown ⊢
  refine A12 (fs hr1 (fs hr3 (fs hc1 (fs e1 e2)))) hs1 hown ?_; try with_reducible exact tt

/-- the numbers of a draw's hashes -/
def hnum (ws : List Nat) (i : Nat) : Nat := if i < ws.length then ws.getD i 0 % hP else i + 1
def drawH (ws : List Nat) (R : Nat) : List (Nat × Nat) := (List.range R).map fun i => (hnum ws (2 * i), hnum ws (2 * i + 1))
/-- updates, as data -/
def updD (l : List (Nat × Int)) : List D := l.flatMap fun u => [.int .u64 u.1, .int .i64 u.2]
end
end Go.Proofs.YtijbgbpjionfjaaGreatDoor.Am
namespace Go.Proofs.YtijbgbpjionfjaaGreatDoor.Am
section
open Go.RowKit
/-- what an update comes to -/
structure UR where
  e : Int
  rs : List Rw
  p : Nat
  d : Bool
/-- a row's register, with so many more -/
def updR (cs : List Bool) (C k a b key n : Nat) (r : Rw) (p : Nat) (d : Bool) : TR := addRM cs k a b n (r.l.getD (colOf C r.a r.b key) (0, 0, false)).1 (r.l.getD (colOf C r.a r.b key) (0, 0, false)).2.1 (r.l.getD (colOf C r.a r.b key) (0, 0, false)).2.2 p d
def updC (r : Rw) (l : List ST) (Z : TR) (U : UR) : UR := if Z.e = 0 then ⟨U.e, ⟨r.a, r.b, l⟩ :: U.rs, U.p, U.d⟩ else ⟨Z.e, [], Z.p, Z.d⟩
def updM (cs : List Bool) (C k a b key n : Nat) : List Rw → Nat → Bool → UR
  | [], p, d => ⟨0, [], p, d⟩
  | r :: rs, p, d => updC r (r.l.set (colOf C r.a r.b key) ((updR cs C k a b key n r p d).y, (updR cs C k a b key n r p d).t, (updR cs C k a b key n r p d).f)) (updR cs C k a b key n r p d) (updM cs C k a b key n rs (updR cs C k a b key n r p d).p (updR cs C k a b key n r p d).d)
end
end Go.Proofs.YtijbgbpjionfjaaGreatDoor.Am
namespace Go.Proofs.YtijbgbpjionfjaaGreatDoor.Am
section
open Go.RowKit
theorem stotal_ok {R C k a b T : Nat} (rs : List Rw) : Eqn Tryz.prog n_cms_Sketch_Total [.p 0 0] [skO R C k a b rs T] (.d (.int .i64 T)) [skO R C k a b rs T] := by
  refine Eqn.gen [0] r_cms_Sketch_Total (by simp) (by simp) (by rfl) (by decide) (by simp) (by simp [skO, skD]) ?_
  simp only [c_cms_Sketch_Total, skO, skD, List.map_cons, List.map_nil]
  refine A00 ?_; try with_reducible exact tt
end
end Go.Proofs.YtijbgbpjionfjaaGreatDoor.Am
namespace Go.Proofs.YtijbgbpjionfjaaGreatDoor.Am
section
open Go.RowKit
end
end Go.Proofs.YtijbgbpjionfjaaGreatDoor.Am
namespace Go.Proofs.YtijbgbpjionfjaaGreatDoor.Am
section
open Go.RowKit
/-- words that came in are natural numbers -/
theorem nats_of : ∀ {L : List Int}, (∀ a ∈ L, (Lit.int .u64 a).wf = true) → ∃ ws : List Nat, L = ws.map (fun n : Nat => (n : Int)) ∧ ∀ x ∈ ws, x < 18446744073709551616
  | [], _ => ⟨[], rfl, by simp⟩
  | a :: L, h => by
    obtain ⟨ws, rfl, hw⟩ := nats_of (L := L) fun b hb => h b (List.mem_cons_of_mem _ hb)
    have ha := h a (List.mem_cons_self)
    unfold Lit.wf at ha
    simp only [Bool.and_eq_true, decide_eq_true_eq] at ha
    have h0 : (0 : Int) ≤ a := ha.1
    have h1 : a ≤ 18446744073709551615 := ha.2
    refine ⟨a.toNat :: ws, by simp [Int.toNat_of_nonneg h0], fun x hx => ?_⟩
    rcases List.mem_cons.1 hx with rfl | hx
    · omega
    · exact hw x hx
theorem cells_one {W : World} {v : Value} {s n : Nat} {l : List Value} (h : Cells W v s n l) : v.oneCell' = true := by
  obtain ⟨_, p, cap, rfl, _⟩ := h; rfl
end
end Go.Proofs.YtijbgbpjionfjaaGreatDoor.Am
namespace Go.Proofs.YtijbgbpjionfjaaGreatDoor.Am
section
/-- the ways out of a block's loop -/
def exitQ {β : Type} (id N : Nat) (T1 : β → List V) (H1 : β → List (Option Ob)) (R2 : β → Prop) (Q : Exit → List V → List (Option Ob) → Prop) : Exit → List V → List (Option Ob) → Prop
  | .exit j, T, H => if j = id then ∃ b, R2 b ∧ wk N T (T1 b) ∧ wkH N H (H1 b) else Q (.exit j) T H
  | .normal, _, _ => False
  | e, T, H => Q e T H
attribute [simp] exitQ
end
end Go.Proofs.YtijbgbpjionfjaaGreatDoor.Am
namespace Go.Proofs.YtijbgbpjionfjaaGreatDoor.Am
section
open Go.RowKit
/-- registers beside the array, in cells -/
def aloneV (l : List ST) : List V := l.flatMap fun s => [.d (.int .i64 s.1), .d (.int .i64 s.2.1), .d (.bool s.2.2)]
@[simp] theorem alone_low (n : Nat) (l : List ST) : V.lowl n (aloneV l) = true := by induction l <;> simp_all [aloneV]

/-- pairs of numbers, as data -/
def actsL (l : List (Int × Int)) : List D := l.flatMap fun a => [.int .i64 a.1, .int .i64 a.2]
end
end Go.Proofs.YtijbgbpjionfjaaGreatDoor.Am
namespace Go.Proofs.YtijbgbpjionfjaaGreatDoor.Am
section
open Go.RowKit
def OvRow (C key came total : Nat) (r : Rw) : Prop := r.a < hP ∧ r.b < hP ∧ r.l.length = C ∧ ∀ j, j < C → ∃ y : Nat, r.l.getD j (0, 0, false) = (y, 0, false) ∧ y ≤ total ∧ (j = colOf C r.a r.b key → came ≤ y) ∧ (C = 1 → y = total)
theorem OvRow.good {C key came total : Nat} {r : Rw} (h : OvRow C key came total r) (ht : total ≤ 256) : GoodRow C 2 8 10 r := by
  obtain ⟨h1, h2, h3, h4⟩ := h
  refine ⟨h1, h2, h3, fun s hs => ?_⟩
  obtain ⟨j, hj, rfl⟩ := List.getElem_of_mem hs
  obtain ⟨y, e, hy, -⟩ := h4 j (by omega)
  rw [List.getD_eq_getElem?_getD, List.getElem?_eq_getElem hj] at e
  simp only [Option.getD_some] at e
  rw [e]
  exact .inr ⟨by omega, rfl, by simp only; omega, by simp⟩
theorem rtextW_ok (n : Nat) (h : n < 100) : Eqn Tryz.prog n_rat_Rat_Text [.d (rD ((n : Nat) : Rat))] [] (.d (.str (smallS n))) [] := by
  refine Eqn.pure r_rat_Rat_Text Plain.ok ?_
  have h1 := wtext_ok n h
  have hz := zero_ok 0
  have e : rD ((n : Nat) : Rat) = .agg [natW n, .bool false, natW 0] := by
    unfold rD
    rw [Rat.num_natCast, Rat.den_natCast, Int.natAbs_natCast]
    congr 4
  rw [e]
  simp only [c_rat_Rat_Text]
  have hwh : Eqn Tryz.prog n_rat_Rat_Whole [.d (.agg [natW n, .bool false, natW 0])] [] (.d (.bool true)) [] := by
    refine Eqn.pure r_rat_Rat_Whole Plain.ok ?_
    simp only [c_rat_Rat_Whole]
    refine A01 hz ?_; try with_reducible exact tt
  refine A02 hwh h1 ?_; try with_reducible exact tt
set_option maxHeartbeats 1000000 in
theorem awake21_ok : Eqn Tryz.prog n_Tlaw21_awake [] [] (.d (.bool true)) [] := by
  refine Eqn.pure r_Tlaw21_awake Plain.ok ?_
  have hg : GoodR 2 3 4 := .inr ⟨by omega, .inr (.inl ⟨rfl, by omega⟩), by omega, by omega⟩
  have hP1 : GoodP 1 1 2 3 4 := ⟨by omega, by omega, by omega, by omega, hg⟩
  have hw := with_ok hP1 [(1, 0)] rfl (by simp [hP])
  have hc : ∀ key, colOf 1 1 0 key = 0 := fun key => Nat.mod_one _
  have hr0 : GoodRow 1 2 3 4 ⟨1, 0, [(0, 0, false)]⟩ := ⟨by decide, by decide, rfl, wells_rep hg 1⟩
  have hr1 : GoodRow 1 2 3 4 ⟨1, 0, [(3, 0, false)]⟩ := ⟨by decide, by decide, rfl, by intro s hs; simp at hs; subst hs; exact .inr ⟨by omega, rfl, by simp, by simp⟩⟩
  have hr2 : GoodRow 1 2 3 4 ⟨1, 0, [(5, 0, false)]⟩ := ⟨by decide, by decide, rfl, by intro s hs; simp at hs; subst hs; exact .inr ⟨by omega, rfl, by simp, by simp⟩⟩
  have hu1 := supd1_ok (T := 0) hg (by omega) (by omega) 1 0 [(0, 0, false)] hr0 [] 5 3 0 false (by decide) (by omega) (by omega) (Nat.le_refl _) (by simp) ⟨0, 3, 0, false, 0, false⟩ (by rw [hc]; kernel_rfl)
  have hu2 := supd1_ok (T := 3) hg (by omega) (by omega) 1 0 [(3, 0, false)] hr1 [] 9 2 0 false (by decide) (by omega) (by omega) (Nat.le_refl _) (by simp) ⟨0, 5, 0, false, 0, false⟩ (by rw [hc]; kernel_rfl)
  have hq := squery_ok (R := 1) (C := 1) (T := 5) hg [⟨1, 0, [(5, 0, false)]⟩] (by omega) (by omega) (by simp) (by simp) (by intro r hr; simp at hr; subst hr; exact hr2) 77 (by decide)
  have hqv : leastQ (valsOf 1 2 3 4 77 [⟨1, 0, [(5, 0, false)]⟩]) 1 = ((5 : Nat) : Rat) := by
    simp only [leastQ, true_or, if_true, valsOf, valAt, List.getElem?_cons_zero, hc]
    rfl
  rw [show ([⟨1, 0, [(5, 0, false)]⟩] : List Rw).length = 1 from rfl, hqv] at hq
  have htx := wtext_ok 5 (by omega)
  have hnw : Eqn Tryz.prog n_tape_New [.d .nilsl] [] (.p 0 0) [tapeO [] 0 false] := by
    have := new_ok [] (by simp)
    exact this.sub (Subs.cons Sub1.nil (Subs.refl _))
  have htot := stotal_ok (R := 1) (C := 1) (k := 2) (a := 3) (b := 4) (T := 5) [⟨1, 0, [(5, 0, false)]⟩]
  rw [show ([(1, 0)] : List (Nat × Nat)).map (newRow 1) = [⟨1, 0, [(0, 0, false)]⟩] from rfl] at hw
  simp only [c_Tlaw21_awake, cpD, hashesD, skO, skD, rowsD, rowD, List.map_cons, List.map_nil, List.flatMap_cons, List.flatMap_nil, List.append_nil, List.length_cons, List.length_nil, if_true, List.set_cons_zero, hc] at hw hu1 hu2 hq htot ⊢
  have hrt := rtextW_ok 5 (by omega)
  generalize arrD 2 3 4 [(0, 0, false)] = AD0 at *
  generalize arrD 2 3 4 [(3, 0, false)] = AD3 at *
  generalize arrD 2 3 4 [(5, 0, false)] = AD5 at *
  generalize ((5 : Nat) : Rat) = q5 at *
  simp only [rD] at hq hrt
  refine G0 ?_; try with_reducible exact tt
  refine CallS.gf 0 2 ⟨62, [.d (.int .u64 (1 : Nat)), .d (.int .u64 (0 : Nat))]⟩ [.int .u64 (1 : Nat), .int .u64 (0 : Nat)] [] (hw) (R0 ?_); try with_reducible exact tt
  refine CallS.n1 (hnw) (R0 ?_); try with_reducible exact tt
  refine CallS.g [1, 2] (hu1) (R0 ?_); try with_reducible exact tt
  refine CallS.n1 (hnw) (R0 ?_); try with_reducible exact tt
  refine CallS.g [1, 3] (hu2) (R0 ?_); try with_reducible exact tt
  refine A00 ?_; try with_reducible exact tt
  refine CallS.g [1] (hq) (R0 ?_); try with_reducible exact tt
  have hs5 : (smallS 5).toList = [53] := by kernel_rfl
  refine A11 hs5 hrt ?_; try with_reducible exact tt
  refine CallS.g [1] (htot) (R0 ?_); try with_reducible exact tt
end
end Go.Proofs.YtijbgbpjionfjaaGreatDoor.Am
namespace Go.Proofs.YtijbgbpjionfjaaGreatDoor.Am
section
open Go.RowKit
theorem okay_ok (b : Bool) : Eqn Tryz.prog n_Tlaw21_okay [.d (.bool b)] [] (.d (.int .i64 (if b then 0 else 10))) [] := by
  refine Eqn.pure r_Tlaw21_okay Plain.ok ?_
  simp only [c_Tlaw21_okay]
  cases b
  · refine A00 ?_; try with_reducible exact tt
  · refine A00 ?_; try with_reducible exact tt
set_option maxHeartbeats 4000000 in
theorem cmsBegins_ok (r c k a b : Int) (ws : List Nat) (cs : List Bool) (u v : Int) (hws : ws.length ≤ 9223372036854775807) (hn : cs.length ≤ 9223372036854775807) :
    Eqn Tryz.prog n_Tlaw21_CmsBegins [.d (drD r c k a b ws), .d (BL cs), .d (.agg [.int .i64 u, .int .i64 v])] [] (.d (.bool true)) [] := by
  refine Eqn.pure r_Tlaw21_CmsBegins Plain.ok ?_
  obtain ⟨R, C, K, A, B, hgp, hR0, hpar⟩ := dparam_ok r c k a b ws
  have hfew := few_ok cs 600 hn (by omega)
  have hx : (cs.take 600).length ≤ 600 := by rw [List.length_take]; omega
  generalize cs.take 600 = xs at hfew hx
  have hnw : Eqn Tryz.prog n_tape_New [.d (.sl xs.length (xs.map .bool))] [] (.p 0 0) [tapeO xs 0 false] := new_ok xs (by omega)
  obtain ⟨S, hS⟩ : ∃ S, S = drawsM xs 0 R := ⟨_, rfl⟩
  obtain ⟨ns1, ns2⟩ := snew_any hgp xs 0 (by omega) (by omega) S hS
  have hdg := drawsM_good xs 0 (by omega)
  have hwn := with_none hgp
  have hr1 := hgp.1
  have hr4 := hgp.2.1
  simp only [c_Tlaw21_CmsBegins, drD, cpD, BL] at hpar hfew ns1 ns2 hwn ⊢
  generalize hWD : (ws.map fun x : Nat => D.int .u64 x) = WD at *
  refine A03B awake21_ok hfew hpar ?_; try with_reducible exact tt
  refine CallS.n1 (hnw) (R0B ?_); try with_reducible exact tt
  refine CallS.n1 (hnw) (R0B ?_); try with_reducible exact tt
  have hrl : S.e = 0 → S.l.length = R := fun he => by
    rcases hdg R with h | h
    · rw [hS]; exact h.2.1
    · rw [hS, h] at he; exact absurd he (by simp)
  by_cases he : S.e = 0
  · have hsl := hrl he
    have hgt := fun r (h : r < R) => drawsM_get (cs := xs) (p := 0) (by omega) h (by rw [← hS]; exact he)
    rw [← hS] at hgt
    replace ns1 := ns1 he
    have hsh := shashes_ok (R := R) (C := C) (k := K) (a := A) (b := B) (T := 0) (S.l.map (newRow C)) (by simp; omega) (by simp; omega)
    have htt := stotal_ok (R := R) (C := C) (k := K) (a := A) (b := B) (T := 0) (S.l.map (newRow C))
    rw [show (S.l.map (newRow C)).map (fun r => (r.a, r.b)) = S.l by rw [List.map_map]; simp [newRow, Function.comp_def], List.length_map, hsl] at hsh
    have hhg := hash_get S.l
    have hhl := hash_len S.l
    rw [hsl] at hhl
    simp only [skO, skD, List.map_cons, List.map_nil, List.length_map, hsl] at ns1 hsh htt
    generalize S.l.map (newRow C) = rs0 at *
    generalize rowsD K A B rs0 = RD at *
    generalize hashesD S.l = HD at *
    refine CallS.g [3] (ns1) (R0B ?_); try with_reducible exact tt
    refine A00B ?_; try with_reducible exact tt
    refine AW.loopT (α := Nat) 6 (fun i => [(39, .d (.int .i64 (i : Int)))]) (fun i => [(4, tapeO xs (drawsM xs 0 i).p false)]) (fun i => i ≤ R ∧ (drawsM xs 0 i).e = 0) (fun i => R - i) 0 ?_ ?_ ⟨Nat.zero_le _, rfl⟩ ?_ ?_ ?_
    · simp
    · simp
    · simp
    · simp [drawsM]
    rintro i ⟨hi, hie⟩
    simp [-Bool.exists_bool]
    obtain ⟨-, dl, -, dp, -⟩ : (drawsM xs 0 i).e = 0 ∧ (drawsM xs 0 i).l.length = i ∧ (∀ x ∈ (drawsM xs 0 i).l, x.1 < hP ∧ x.2 < hP) ∧ (drawsM xs 0 i).p ≤ xs.length ∧ (drawsM xs 0 i).d = false := by
      rcases hdg i with h | h
      · exact h
      · rw [h] at hie; exact absurd hie (by simp)
    have hst : drawsM xs 0 (i + 1) = if (drawM xs (drawsM xs 0 i).p).e = 0 then ⟨0, (drawsM xs 0 i).l ++ [((drawM xs (drawsM xs 0 i).p).a, (drawM xs (drawsM xs 0 i).p).b)], (drawM xs (drawsM xs 0 i).p).p, false⟩ else ⟨8, [], xs.length, true⟩ := by
      rw [drawsM, if_pos hie]
    have hdr := hdraw_ok xs (drawsM xs 0 i).p dp (by omega) _ rfl
    have hgd := drawM_good xs (drawsM xs 0 i).p dp
    have ew : IntKind.i64.wrap ((i : Int) + 1) = ((i + 1 : Nat) : Int) := by rw [w64 (by omega) (by omega)]; omega
    by_cases hiR : i < R
    · have hi1 : (i : Int) < R := by omega
      obtain ⟨-, y0, hg3⟩ := hgt i hiR
      have hse : (drawsM xs 0 (i + 1)).e = 0 ∧ (drawsM xs 0 (i + 1)).p = (drawM xs (drawsM xs 0 i).p).p := by rw [hst, if_pos y0]; exact ⟨rfl, rfl⟩
      have hgi := hhg i (by omega)
      rw [List.getElem?_eq_getElem (show i < S.l.length by omega)] at hg3
      simp only [Option.some.injEq] at hg3
      rw [hg3] at hgi
      replace hgi : List.take 2 (List.drop (i * 2) (HD.map V.d)) = [.d (.int .u64 (drawM xs (drawsM xs 0 i).p).a), .d (.int .u64 (drawM xs (drawsM xs 0 i).p).b)] := by rw [← List.map_drop, ← List.map_take, hgi]; rfl
      clear hg3 hst
      rcases hgd with ⟨-, -, -, -, y4⟩ | hy
      rotate_left
      · rw [hy] at y0; exact absurd y0 (by simp)
      generalize drawM xs (drawsM xs 0 i).p = Y at *
      obtain ⟨Ye, Ya, Yb, Yp, Yd⟩ := Y
      simp only at y0 y4 hse hdr hgi
      subst y0 y4
      simp only [hD] at hdr
      have hb : i * 2 + 2 ≤ R * 2 := by omega
      refine A10B (fs hiR hi1) ?_; try with_reducible exact tt
      refine CallS.o1 4 (hdr) (R0B ?_); try with_reducible exact tt
      refine A00B ?_; try with_reducible exact tt
      refine CallS.g [5] (hsh) (R1B (fs hiR (fs hi1 (fs hgi (fs hhl hb)))) ?_); try with_reducible exact tt
      refine A10B ew ?_; try with_reducible exact tt
      exact ⟨i + 1, ⟨by omega, hse.1⟩, by omega, Sub1.int (by omega), Subs.of (by simp [hse.2])⟩
    · have h2 : i = R := by omega
      subst h2
      rw [← hS] at dp ⊢
      clear hst hdr hgd
      refine A00B ?_; try with_reducible exact tt
      refine CallS.o1 3 (read_ok xs S.p false) (R0B ?_); try with_reducible exact tt
      refine CallS.o1 4 (read_ok xs S.p false) (R0B ?_); try with_reducible exact tt
      refine CallS.g [5] (htt) (R0B ?_); try with_reducible exact tt
      refine A00B ?_; try with_reducible exact tt
      by_cases hok : 1 ≤ u ∧ u ≤ 4 ∧ 1 ≤ v ∧ v ≤ 64
      · obtain ⟨u1, u2, v1, v2⟩ := hok
        obtain ⟨U, rfl⟩ : ∃ U : Nat, u = U := ⟨u.toNat, by omega⟩
        obtain ⟨V0, rfl⟩ : ∃ U : Nat, v = U := ⟨v.toNat, by omega⟩
        have hgp2 : GoodP U V0 K A B := ⟨by omega, by omega, by omega, by omega, hgp.2.2.2.2⟩
        obtain ⟨m1, m2⟩ := snew_any hgp2 xs S.p dp (by omega) _ rfl
        have hpc := pcheck_ok hgp2
        have hko := okay_ok true
        have q1 : 1 ≤ U := by omega
        have q2 : U ≤ 4 := by omega
        have q3 : 1 ≤ V0 := by omega
        have q4 : V0 ≤ 64 := by omega
        simp only [cpD] at m1 m2 hpc
        by_cases hme : (drawsM xs S.p U).e = 0
        · replace m1 := m1 hme
          refine CallS.g [4] (m1) (R1B (fs u1 (fs u2 (fs v1 (fs v2 (fs q1 (fs q2 (fs q3 q4))))))) ?_); try with_reducible exact tt
          refine A13B (fs u1 (fs u2 (fs v1 (fs v2 (fs q1 (fs q2 (fs q3 q4))))))) hwn hpc hko ?_; try with_reducible exact tt
        · replace m2 := m2 hme
          refine CallS.g [4] (m2) (R1B (fs u1 (fs u2 (fs v1 (fs v2 (fs q1 (fs q2 (fs q3 q4))))))) ?_); try with_reducible exact tt
          refine A13B (fs u1 (fs u2 (fs v1 (fs v2 (fs q1 (fs q2 (fs q3 q4))))))) hwn hpc hko ?_; try with_reducible exact tt
      · have m1 := snew_bad (R := u) (C := v) (k := K) (a := A) (b := B) xs S.p false hok
        have hpc := pcheck_bad (R := u) (C := v) (k := K) (a := A) (b := B) hok
        have hko := okay_ok false
        refine CallS.g [4] (m1) (R0B ?_); try with_reducible exact tt
        by_cases u1 : 1 ≤ u
        · by_cases u2 : u ≤ 4
          · by_cases v1 : 1 ≤ v
            · have v2 : ¬ v ≤ 64 := fun h => hok ⟨u1, u2, v1, h⟩
              refine A13B (fs u1 (fs u2 (fs v1 v2))) hwn hpc hko ?_; try with_reducible exact tt
            · refine A13B (fs u1 (fs u2 v1)) hwn hpc hko ?_; try with_reducible exact tt
          · refine A13B (fs u1 u2) hwn hpc hko ?_; try with_reducible exact tt
        · refine A13B u1 hwn hpc hko ?_; try with_reducible exact tt
  · replace ns2 := ns2 he
    refine CallS.g [3] (ns2) (R0B ?_); try with_reducible exact tt
    refine A00B ?_; try with_reducible exact tt
    refine AW.loopT (α := Nat) 5 (fun i => [(39, .d (.int .i64 (i : Int)))]) (fun i => [(4, tapeO xs (drawsM xs 0 i).p false)]) (fun i => i ≤ R ∧ (drawsM xs 0 i).e = 0) (fun i => R - i) 0 ?_ ?_ ⟨Nat.zero_le _, rfl⟩ ?_ ?_ ?_
    · simp
    · simp
    · simp
    · simp [drawsM]
    rintro i ⟨hi, hie⟩
    simp [-Bool.exists_bool]
    obtain ⟨-, dl, -, dp, -⟩ : (drawsM xs 0 i).e = 0 ∧ (drawsM xs 0 i).l.length = i ∧ (∀ x ∈ (drawsM xs 0 i).l, x.1 < hP ∧ x.2 < hP) ∧ (drawsM xs 0 i).p ≤ xs.length ∧ (drawsM xs 0 i).d = false := by
      rcases hdg i with h | h
      · exact h
      · rw [h] at hie; exact absurd hie (by simp)
    have hst : drawsM xs 0 (i + 1) = if (drawM xs (drawsM xs 0 i).p).e = 0 then ⟨0, (drawsM xs 0 i).l ++ [((drawM xs (drawsM xs 0 i).p).a, (drawM xs (drawsM xs 0 i).p).b)], (drawM xs (drawsM xs 0 i).p).p, false⟩ else ⟨8, [], xs.length, true⟩ := by
      rw [drawsM, if_pos hie]
    have hdr := hdraw_ok xs (drawsM xs 0 i).p dp (by omega) _ rfl
    have hgd := drawM_good xs (drawsM xs 0 i).p dp
    have ew : IntKind.i64.wrap ((i : Int) + 1) = ((i + 1 : Nat) : Int) := by rw [w64 (by omega) (by omega)]; omega
    by_cases hiR : i < R
    · have hi1 : (i : Int) < R := by omega
      rcases hgd with ⟨y0, -, -, -, y4⟩ | hy
      · have hse : (drawsM xs 0 (i + 1)).e = 0 ∧ (drawsM xs 0 (i + 1)).p = (drawM xs (drawsM xs 0 i).p).p := by rw [hst, if_pos y0]; exact ⟨rfl, rfl⟩
        clear hst
        generalize drawM xs (drawsM xs 0 i).p = Y at *
        obtain ⟨Ye, Ya, Yb, Yp, Yd⟩ := Y
        simp only at y0 y4 hse hdr
        subst y0 y4
        simp only [hD] at hdr
        refine A10B (fs hiR hi1) ?_; try with_reducible exact tt
        refine CallS.o1 4 (hdr) (R0B ?_); try with_reducible exact tt
        refine A10B ew ?_; try with_reducible exact tt
        exact ⟨i + 1, ⟨by omega, hse.1⟩, by omega, Sub1.int (by omega), Subs.of (by simp [hse.2])⟩
      · rw [hy] at hdr
        simp only [hD] at hdr
        refine A10B (fs hiR hi1) ?_; try with_reducible exact tt
        refine CallS.o1 4 (hdr) (R0B ?_); try with_reducible exact tt
        refine A00B ?_; try with_reducible exact tt
    · have h2 : i = R := by omega
      subst h2
      rw [← hS] at hie
      exact absurd hie he
end
end Go.Proofs.YtijbgbpjionfjaaGreatDoor.Am
namespace Go.Proofs.YtijbgbpjionfjaaGreatDoor.Am
section
open Go.RowKit

theorem rep_draw {W : World} {v : Value} {L : List Int} {r c k a b : Int} (w : Cells W v 1 L.length (L.map fun a => [Value.int .u64 a]).flatten) (h : ∀ a ∈ L, (Lit.int .u64 a).wf = true) : ∃ ws : List Nat, ws.length = L.length ∧ V.rep (memW W) (.d (drD r c k a b ws)) (.agg #[.int .i64 r, .int .i64 c, .int .i64 k, .int .i64 a, .int .i64 b, v]) := by
  obtain ⟨ws, rfl, -⟩ := nats_of h
  refine ⟨ws, by simp, ?_⟩
  have hw : Cells W v 1 ws.length (ws.map fun n : Nat => Value.int .u64 n) := by
    have e : ((ws.map fun n : Nat => (n : Int)).map fun a => [Value.int .u64 a]).flatten = ws.map fun n : Nat => Value.int .u64 n := by
      rw [List.map_map]
      clear w h
      induction ws with
      | nil => rfl
      | cons x l ih => simp only [List.map_cons, List.flatten_cons, ih]; rfl
    rw [e, List.length_map] at w; exact w
  have hr := rep_cells (fun n : Nat => D.int .u64 n) (fun n : Nat => Value.int .u64 n) (fun _ => rfl) (fun _ => D.rep_int.2 rfl) hw
  refine rep_agg (vs := [.int .i64 r, .int .i64 c, .int .i64 k, .int .i64 a, .int .i64 b, v]) (fun z hz => ?_) ?_
  · simp at hz
    rcases hz with rfl | rfl | rfl | rfl | rfl | rfl <;> first | rfl | exact cells_one w
  · exact D.reps_cons.2 ⟨D.rep_int.2 rfl, D.reps_cons.2 ⟨D.rep_int.2 rfl, D.reps_cons.2 ⟨D.rep_int.2 rfl, D.reps_cons.2 ⟨D.rep_int.2 rfl, D.reps_cons.2 ⟨D.rep_int.2 rfl, D.reps_cons.2 ⟨V.rep_d.1 hr, D.reps_nil.2 rfl⟩⟩⟩⟩⟩⟩
end
end Go.Proofs.YtijbgbpjionfjaaGreatDoor.Am
namespace Go.Proofs.YtijbgbpjionfjaaGreatDoor.Am
section
open Go.RowKit

theorem reps_ints2 {I : Nat → Prop} {w : World} : ∀ l : List Int, D.reps I w (l.map (D.int .i64)) (l.map (Value.int .i64))
  | [] => D.reps_nil.2 rfl
  | _ :: l => D.reps_cons.2 ⟨D.rep_int.2 rfl, reps_ints2 l⟩
theorem rep_ints2 {W : World} (l : List Int) : V.rep (memW W) (.d (.agg (l.map (D.int .i64)))) (.agg (l.map (Value.int .i64)).toArray) :=
  rep_agg (fun u hu => by obtain ⟨n, -, rfl⟩ := List.mem_map.1 hu; rfl) (reps_ints2 l)
theorem cb_walk {W : World} {v0 v1 : Value} {r c k a b x y : Int} {L0 : List Int} {cs : List Bool}
    (_ : (Lit.int .i64 r).wf = true) (_ : (Lit.int .i64 c).wf = true) (_ : (Lit.int .i64 k).wf = true) (_ : (Lit.int .i64 a).wf = true) (_ : (Lit.int .i64 b).wf = true)
    (w0 : Cells W v0 1 L0.length (L0.map fun a => [Value.int .u64 a]).flatten) (h0 : L0.length ≤ maxLen) (p0 : ∀ a ∈ L0, (Lit.int .u64 a).wf = true)
    (w1 : Bools W v1 cs) :
    Calls Tryz.prog n_Tlaw21_CmsBegins #[.agg #[.int .i64 r, .int .i64 c, .int .i64 k, .int .i64 a, .int .i64 b, v0], v1, .agg #[.int .i64 x, .int .i64 y]] W (fun e W' => e = .returned (.bool true) ∧ Same W W') := by
  obtain ⟨ws, hws, hr0⟩ := rep_draw (r := r) (c := c) (k := k) (a := a) (b := b) w0 p0
  have hb := bools_len w1
  unfold maxLen at h0 hb
  exact law_walk r_Tlaw21_CmsBegins (cmsBegins_ok r c k a b ws cs x y (by omega) (by omega)) (V.reps_cons.2 ⟨hr0, V.reps_cons.2 ⟨rep_bools w1, V.reps_cons.2 ⟨rep_ints2 [x, y], V.reps_nil.2 rfl⟩⟩⟩)
end
end Go.Proofs.YtijbgbpjionfjaaGreatDoor.Am
